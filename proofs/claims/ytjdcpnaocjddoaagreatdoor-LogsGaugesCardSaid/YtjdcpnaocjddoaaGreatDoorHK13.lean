/-
  Part 13 of the proof: contracts and plain laws. Conditions: none.
-/
import Derived.Maps.RangeRun
import Derived.RangeFuncNested
import Derived.RangeFuncBound
import Derived.RangeFuncLeaves
import Derived.Test.YtjdcpnaocjddoaaGreatDoorHK12
namespace Go.Proofs.YtjdcpnaocjddoaaGreatDoor
open Go Go.RowKit Go.Proofs.Tryz
theorem Sl.ofBlk {α : Type} [Inhabited α] {enc : α → List Value} {k : Nat} (hk : ∀ x, (enc x).length = k) {w : World} {b : Nat} {t : TypeId} {xs : List α} (h : Blk w b t (xs.flatMap enc)) : Sl enc k w (some ⟨b, 0, none⟩) b 0 xs :=
  ⟨fun _ => rfl, fun _ => h.lt, fun i hi j v hv => by
    have h1 := flatMap_at hk xs i j v hi hv
    rw [Nat.zero_add]
    exact h.get h1⟩
/-! ### The document's examples -/
def knE1 : List Ent := [⟨2, 1, 1, 3, 0, 0⟩]
def knE4 : List Ent := [⟨0, 1, 1, 10, 0, 0⟩, ⟨0, 2, 1, 0, 5, 50⟩, ⟨0, 3, 1, 30, 0, 0⟩, ⟨0, 4, 1, 0, 5, 20⟩]
def knB (b : Nat) : Bil := ⟨5, 9, 1200, 10, 250, [3, 77], some ⟨b, 0, none⟩, b, 0, 2⟩
theorem kn_code : codeR 5 = ([48, 48, 49, 49, 48], 0) := by kernel_rfl
theorem kn_dec : decP [48, 48, 49, 49, 48, 49] = (5, 5, 0) := by kernel_rfl
theorem kn_log1 : chkE knE1 = 0 := by kernel_rfl
theorem kn_log2 : (logP knE1).length = 64 ∧ nth (logP knE1) 0 = 142 ∧ nth (logP knE1) 1 = 64 ∧ nth (logP knE1) 30 = 1 ∧ nth (logP knE1) 31 = 14 ∧ nth (logP knE1) 62 = 4 ∧ nth (logP knE1) 63 = 223 := ⟨by kernel_rfl, by kernel_rfl, by kernel_rfl, by kernel_rfl, by kernel_rfl, by kernel_rfl, by kernel_rfl⟩
theorem kn_rep : repP zSea knE4 = (0, 0, ⟨0, 1000, [⟨1, 30, [⟨5, 30⟩]⟩], [⟨5, 50⟩], [⟨5, 20⟩]⟩) := by kernel_rfl
theorem kn_i5 : Lib.itoa 5 = [53] := by simp [Lib.itoa, Lib.decDigits]
theorem kn_i9 : Lib.itoa 9 = [57] := by simp [Lib.itoa, Lib.decDigits]
theorem kn_i1200 : Lib.itoa 1200 = [49, 50, 48, 48] := by simp [Lib.itoa, Lib.decDigits]
theorem kn_i10 : Lib.itoa 10 = [49, 48] := by simp [Lib.itoa, Lib.decDigits]
theorem kn_i250 : Lib.itoa 250 = [50, 53, 48] := by simp [Lib.itoa, Lib.decDigits]
theorem kn_i3 : Lib.itoa 3 = [51] := by simp [Lib.itoa, Lib.decDigits]
theorem kn_i77 : Lib.itoa 77 = [55, 55] := by simp [Lib.itoa, Lib.decDigits]
def knT : List UInt8 := [53, 32, 57, 32, 49, 50, 48, 48, 32, 49, 48, 62, 50, 53, 48, 32, 51, 44, 55, 55, 32, 99, 108, 10]
theorem kn_chkB (b : Nat) : chkB 0 [knB b] = 0 := by kernel_rfl
theorem kn_bill (b : Nat) : billP (knB b) = knT := by
  unfold billP sealsP
  show sealedP [Lib.itoa 5, Lib.itoa 9, Lib.itoa 1200, Lib.itoa 10 ++ [62] ++ Lib.itoa 250, Lib.join [Lib.itoa 3, Lib.itoa 77] [44]] = knT
  rw [kn_i5, kn_i9, kn_i1200, kn_i10, kn_i250, kn_i3, kn_i77]
  kernel_rfl
theorem kn_txt (b : Nat) : textP [knB b] = (knT, 0) := by
  unfold textP
  rw [if_neg (by simp), if_pos (kn_chkB b)]
  have e : [knB b].flatMap billP = billP (knB b) := by simp
  rw [e, kn_bill]
theorem knCode_c (w0 : World) : CallsV Tryz.prog 24 [.int .i64 5] w0 fun v w' => v = .tuple #[.string (strB [48, 48, 49, 49, 48]), .int .i64 0] ∧ Ext w0 w' := by
  have h := Code_c 5 w0
  rw [kn_code] at h
  exact h
theorem knDec_c (w0 : World) : CallsV Tryz.prog 26 [.string (strB [48, 48, 49, 49, 48, 49])] w0 fun v w' => v = .tuple #[.int .i64 5, .int .i64 5, .int .i64 0] ∧ Ext w0 w' := by
  have h := Decode_c [48, 48, 49, 49, 48, 49] w0 (by decide)
  rw [kn_dec] at h
  exact h
theorem knLog_c (b : Nat) (w0 : World) (hB : Blk w0 b 43 [.int .i64 2, .int .i64 1, .int .i64 1, .int .i64 3, .int .i64 0, .int .i64 0]) : CallsV Tryz.prog 15 [.slice (some ⟨b, 0, none⟩) 1 1] w0 fun v w' => (∃ a9 g9 c9, v = .tuple #[.slice a9 64 c9, .int .i64 0] ∧ Acc encY 1 5 w0.heap.size w' a9 g9 c9 (logP knE1)) ∧ Ext w0 w' := by
  have h := WriteLog_c knE1 (some ⟨b, 0, none⟩) b 0 1 w0 (Sl.ofBlk (enc := encEnt) (k := 6) (xs := knE1) (fun _ => rfl) hB) (by decide) (by have := hB.lt; omega)
  rw [kn_log1, kn_log2.1] at h
  exact h
theorem knRep_c (b : Nat) (w0 : World) (hB : Blk w0 b 43 (knE4.flatMap encEnt)) : CallsV Tryz.prog 20 [.agg #[.int .i64 0, .slice none 0 0, .slice none 0 0, .slice none 0 0, .int .i64 0], .slice (some ⟨b, 0, none⟩) 4 4] w0 fun v w' => (∃ m a c l1 a1 c1 l2 a2 c2, v = .tuple #[.agg #[.int .i64 m, .slice a 1 c, .slice a1 l1 c1, .slice a2 l2 c2, .int .i64 1000], .int .i64 0, .int .i64 0]) ∧ Ext w0 w' := by
  have hz : SeaOk 0 SG0.st := ⟨asc_nil, fun h hh => (by cases hh), CgOk.nil _, CgOk.nil _, by decide, by decide, by decide⟩
  have hp : 0 < w0.heap.size := by have := hB.lt; omega
  refine CallsV.mono (Replay_c knE4 (some ⟨b, 0, none⟩) b 0 4 SG0 0 0 0 0 w0 (Sl.ofBlk (enc := encEnt) (k := 6) (xs := knE4) (fun _ => rfl) hB) (by decide) hp (SIn.zero hp) hz (by decide)) ?_
  rintro v w' ⟨⟨V9, rfl, hI, hst, _⟩, u⟩
  have hr : repP SG0.st knE4 = (0, 0, ⟨0, 1000, [⟨1, 30, [⟨5, 30⟩]⟩], [⟨5, 50⟩], [⟨5, 20⟩]⟩) := kn_rep
  rw [hr] at hst ⊢
  have h1 : V9.wk = 1000 := congrArg Sea.wk hst
  have h2 : V9.rs.length = 1 := by
    have h3 := congrArg (fun s : Sea => s.hs.length) hst
    have h3 : (V9.rs.map HR.hul).length = 1 := h3
    rwa [List.length_map] at h3
  exact ⟨⟨V9.m, V9.ah, V9.ch, _, V9.al, V9.cl, _, V9.au, V9.cu, by unfold SG.cells; rw [h1, h2]; rfl⟩, u⟩
theorem knBills_c (b b2 : Nat) (w0 : World) (hT : Tab10 w0) (hB2 : Blk w0 b2 3 [.int .i64 3, .int .i64 77]) (hB : Blk w0 b 71 [.int .i64 5, .int .i64 9, .int .i64 1200, .int .i64 10, .int .i64 250, .slice (some ⟨b2, 0, none⟩) 2 2]) : CallsV Tryz.prog 38 [.slice (some ⟨b, 0, none⟩) 1 1] w0 fun v w' => v = .tuple #[.string (strB knT), .int .i64 0] ∧ Ext w0 w' := by
  have h := WriteBills_c [knB b2] (some ⟨b, 0, none⟩) b 0 1 w0 (Sl.ofBlk (enc := encBil) (k := 6) (xs := [knB b2]) (fun _ => rfl) hB) (fun x hx => by rw [List.mem_singleton.1 hx]; exact ⟨SlI.own (xs := [3, 77]) hB2, by show 2 ≤ 1000000; decide⟩) (by simp) hT (by have := hB.lt; omega)
  rw [kn_txt] at h
  exact h
set_option maxHeartbeats 4000000 in
theorem known_c  (w0 : World) (hT : Tab10 w0) (_hpos : 0 < w0.heap.size) :
    CallsV Tryz.prog 13 [] w0 (fun v w' => v = .bool true ∧ Ext w0 w') := by
 have hl64 : (logP knE1).length = 64 := kn_log2.1
 have ht24 : knT.length = 24 := rfl
 refine f_n func13 ?_
 refine go ?_
 refine x_c func24 rfl rfl (knCode_c _) ?_
 rintro _ w4 ⟨rfl, u5⟩ zu5
 refine go ?_
 refine x_c func26 rfl rfl (knDec_c _) ?_
 rintro _ w10 ⟨rfl, u11⟩ zu11
 refine go ?_
 refine x_l fun bk15 w16 ebk15 sbk15 B17 u18 => ?_
 refine x_c func15 rfl rfl (knLog_c bk15 _ B17) ?_
 rintro _ w21 ⟨⟨a9, g9, c9, rfl, hF9⟩, u22⟩ zu22
 have lt_g9 := hF9.lt
 refine go ?_
 refine x_l fun bk26 w27 ebk26 sbk26 B28 u29 => ?_
 refine x_c func20 rfl rfl (knRep_c bk26 _ B28) ?_
 rintro _ w32 ⟨⟨m9, ah9, ch9, l19, al9, cl9, l29, au9, cu9, rfl⟩, u33⟩ zu33
 refine go ?_
 refine x_n fun bk36 w37 ebk36 sbk36 B38 u39 => ?_
 refine x_s fun w41 sw41 B43 u42 => ?_
 refine go ?_
 refine x_l fun bk46 w47 ebk46 sbk46 B48 u49 => ?_
 refine go ?_
 refine x_l fun bk51 w52 ebk51 sbk51 B53 u54 => ?_
 have B56 := (B48.kx u54)
 refine x_c func38 rfl rfl (knBills_c bk51 bk46 _ (hT.ext (((((((((((Upd.refl (fun _ => False) w0).nx u5).nx u11).nx u18).nx u22).nx u29).nx u33).nx u39).next u42 (fun i hi h => by omega)).nx u49).nx u54)) B56 B53) ?_
 rintro _ w58 ⟨rfl, u59⟩ zu59
 refine go ?_
 refine t_lenS underlying9 rfl rfl rfl rfl (t_same 77 (v := .int .i64 24) rfl rfl ?_)
 refine go ?_
 refine t_bo (Bo.eqS ([48, 48, 49, 49, 48]) ([48, 48, 49, 49, 48])) rfl rfl rfl rfl (t_same 81 (v := .bool true) rfl (congrArg Value.bool (decide_eq_true rfl)) ?_)
 refine go ?_
 have D65 := (((((((hF9.keep u29 (fun _ h => h)).keep u33 (fun _ h => h)).keep u39 (fun _ h => h)).keep u42 (fun hb => show ¬ (g9 = bk36) by first | omega | assumption)).keep u49 (fun _ h => h)).keep u54 (fun _ h => h)).keep u59 (fun _ h => h))
 refine g_i 0 (D65.sl (fun _ => rfl)) (fun _ => ?_)
 refine st1 ?_
 refine t_same 93 (v := .int .u8 142) rfl (by rw [kn_log2.2.1]; rfl) ?_
 refine go ?_
 refine g_i 1 (D65.sl (fun _ => rfl)) (fun _ => ?_)
 refine st1 ?_
 refine t_same 99 (v := .int .u8 64) rfl (by rw [kn_log2.2.2.1]; rfl) ?_
 refine go ?_
 refine g_i 30 (D65.sl (fun _ => rfl)) (fun _ => ?_)
 refine st1 ?_
 refine t_same 105 (v := .int .u8 1) rfl (by rw [kn_log2.2.2.2.1]; rfl) ?_
 refine go ?_
 refine g_i 31 (D65.sl (fun _ => rfl)) (fun _ => ?_)
 refine st1 ?_
 refine t_same 111 (v := .int .u8 14) rfl (by rw [kn_log2.2.2.2.2.1]; rfl) ?_
 refine go ?_
 refine g_i 62 (D65.sl (fun _ => rfl)) (fun _ => ?_)
 refine st1 ?_
 refine t_same 117 (v := .int .u8 4) rfl (by rw [kn_log2.2.2.2.2.2.1]; rfl) ?_
 refine go ?_
 refine g_i 63 (D65.sl (fun _ => rfl)) (fun _ => ?_)
 refine st1 ?_
 refine t_same 123 (v := .int .u8 223) rfl (by rw [kn_log2.2.2.2.2.2.2]; rfl) ?_
 refine go ?_
 refine t_subS 0 21 underlying9 rfl rfl rfl (.inr ⟨rfl, rfl⟩) (k := .i64) (m := 0) (x1 := .tmp 0) (.inl ⟨rfl, rfl, by first | rfl | omega⟩) (by omega) (by omega) (t_bo (Bo.eqS (((knT).drop 0).take (21 - 0)) ([53, 32, 57, 32, 49, 50, 48, 48, 32, 49, 48, 62, 50, 53, 48, 32, 51, 44, 55, 55, 32])) rfl rfl rfl rfl (t_same 134 (v := .bool true) rfl (congrArg Value.bool (decide_eq_true (by kernel_rfl))) ?_))
 refine go ?_
 refine f_1 results13 ?_
 exact ⟨rfl, u_d⟩

end Go.Proofs.YtjdcpnaocjddoaaGreatDoor
namespace Go.Proofs.YtjdcpnaocjddoaaGreatDoor
open Go Go.RowKit
/-- How keys and values of a map are laid. -/
structure Cod (α β : Type) where
  k : α → Value
  v : β → Value
def kvG {α β : Type} (c : Cod α β) (p : α × β) : Value × Value := (c.k p.1, c.v p.2)
/-- In block r lies a map with these keys and values. -/
def MapG {α β : Type} (cd : Cod α β) (m : List (α × β)) (w : World) (r : Nat) : Prop := ∃ es c, w.heap[r]? = some (.map es c) ∧ es.toList.map (fun e => (e.key, e.val)) = m.map (kvG cd) ∧ (∀ e ∈ es.toList, e.born < c) ∧ (es.toList.map (·.born)).Nodup
section
variable {α β : Type} {cd : Cod α β}
theorem MapG.lt {m : List (α × β)} {w : World} {r : Nat} (h : MapG cd m w r) : r < w.heap.size := by obtain ⟨es, c, h, _⟩ := h; exact lt_of_block h
theorem MapG.keep {m : List (α × β)} {w w' : World} {r : Nat} {S : Nat → Prop} (h : MapG cd m w r) (u : Upd S w w') (hn : ¬ S r) : MapG cd m w' r := by
  obtain ⟨es, c, h1, h2⟩ := h
  exact ⟨es, c, (u.block r (lt_of_block h1) hn).trans h1, h2⟩
theorem MapG.ne {m : List (α × β)} {w : World} {r b : Nat} {c : Array Value} {t : TypeId} {f : Nat × Nat} (h : MapG cd m w r) (hb : w.heap[b]? = some (.cells c t f)) : r ≠ b := fun e => by
  obtain ⟨es, c, h1, _⟩ := h
  subst e; rw [h1] at hb; cases hb
theorem MapG.ofMemo {w : World} {r : Nat} (h : ∀ F, Memo F w r) : MapG cd [] w r := by
  obtain ⟨es, c, h1, h2⟩ := h (fun _ _ _ => False)
  have he : es.toList = [] := by
    cases he : es.toList with
    | nil => rfl
    | cons e l => obtain ⟨_, _, _, hf⟩ := h2 e (by rw [he]; simp); exact hf.elim
  exact ⟨es, c, h1, by rw [he]; rfl, by rw [he]; simp, by rw [he]; simp⟩
end
/-- Where a key stands, and its value. -/
def fG {α β : Type} [DecidableEq α] : List (α × β) → α → Nat → Option (Nat × β)
  | [], _, _ => none
  | p :: m, a, i => if a = p.1 then some (i, p.2) else fG m a (i + 1)
def gtG {α β : Type} [DecidableEq α] (m : List (α × β)) (a : α) : Option β := (fG m a 0).map (·.2)
def upG {α β : Type} [DecidableEq α] (m : List (α × β)) (a : α) (v : β) : List (α × β) := match fG m a 0 with
  | none => m ++ [(a, v)]
  | some p => m.set p.1 (a, v)
/-- What the key's type must know: whether two keys are one. -/
structure KeyOK (P : Program) (K : TypeId) {α β : Type} [DecidableEq α] (cd : Cod α β) : Prop where
  find : ∀ (m : List (α × β)) (es : List MapEntry) (a : α) (w : World), es.map (fun e => (e.key, e.val)) = m.map (kvG cd) → (Instr.findKey K (cd.k a) es).run P w = .ok ((fG m a 0).map fun p => (p.1, cd.v p.2)) w
  check : ∀ (em : Bool) (a : α) (w : World), (Instr.checkKey em 10000 K (cd.k a)).run P w = .ok () w
  stays : ∀ (a : α) (w : World), (Instr.keyThatStays (cd.k a) (cd.k a)).run P w = .ok (cd.k a) w
section
variable {α β : Type} [DecidableEq α] {cd : Cod α β}
end
section
variable {P : Program} {α β : Type} [DecidableEq α]
theorem findNowG {v : β → Value} {a : Int} : ∀ (m : List (Int × β)) (es : List MapEntry) (i : Nat), es.map (fun e => (e.key, e.val)) = m.map (kvG ⟨.int .i64, v⟩) → Instr.findNow (.int .i64) (.int .i64 a) es i = some ((fG m a i).map fun p => (p.1, v p.2))
  | [], [], i, _ => rfl
  | [], _ :: _, _, h => by simp at h
  | _ :: _, [], _, h => by simp at h
  | p :: m, e :: es, i, h => by
    simp only [List.map_cons, List.cons.injEq, kvG, Prod.mk.injEq] at h
    obtain ⟨⟨hk, hv⟩, h⟩ := h
    have ih := findNowG (a := a) m es (i + 1) h
    by_cases q : a = p.1
    · simp [Instr.findNow, hk, hv, Instr.sameNow, fG, q]
    · have hs : Instr.sameNow (.int .i64) (.int .i64 a) e.key = some false := by rw [hk]; simp [Instr.sameNow, q]
      rw [Instr.findNow, hs]
      simp only [fG, if_neg q]
      exact ih
theorem checkKeyN {K : TypeId} (hK : P.underlying K = some (.int .i64)) (em : Bool) (n : Nat) (a : Int) (w : World) : (Instr.checkKey em (n + 1) K (.int .i64 a)).run P w = .ok () w := by
  simp [Instr.checkKey, run_underlying hK]
theorem KeyOK.int {K : TypeId} (hK : P.underlying K = some (.int .i64)) (v : β → Value) : KeyOK P K (⟨.int .i64, v⟩ : Cod Int β) :=
  ⟨fun m es a w h => by simp [Instr.findKey, run_underlying hK, findNowG m es 0 h], fun em a w => checkKeyN hK em 9999 a w, fun a w => by simp [Instr.keyThatStays, Instr.sameBits]⟩
end
section steps
variable {rd : Option Nat} {P : Program} {ops : Array Oper} {Q : Exit → Act → World → Prop} {N : Nat} {ds : List Deferred} {rest : List Oper} {L : Slots} {w : World}
variable {α β : Type} [DecidableEq α] {cd : Cod α β}
variable {d : Nat} {ty : TypeId} {pos : String} {aft : Array Edge} {g : Option (Nat × Bool)}
end steps
section steps2
variable {rd : Option Nat} {P : Program} {ops : Array Oper} {Q : Exit → Act → World → Prop} {N : Nat} {ds : List Deferred} {rest : List Oper} {L : Slots} {w : World}
variable {α β : Type} {cd : Cod α β}
variable {d : Nat} {ty : TypeId} {pos : String} {aft : Array Edge} {g : Option (Nat × Bool)}
/-- A range over the map in block r is under way, its iterator lies in block it; these entries are to come. -/
def ItG {α β : Type} (cd : Cod α β) (m left : List (α × β)) (w : World) (r it : Nat) : Prop := ∃ es c since seen c0, w.heap[r]? = some (.map es c) ∧ es.toList.map (fun e => (e.key, e.val)) = m.map (kvG cd) ∧ (es.toList.map (·.born)).Nodup ∧ w.heap[it]? = some (.mapIter (some r) since seen c0) ∧ (∀ e ∈ es.toList, e.born < since) ∧ since ≤ c0 ∧ since ≤ c ∧ (leftOf es seen).toList.map (fun e => (e.key, e.val)) = left.map (kvG cd)
theorem ItG.keep {m left : List (α × β)} {w w' : World} {r it : Nat} {S : Nat → Prop} (h : ItG cd m left w r it) (u : Upd S w w') (h1 : ¬ S r) (h2 : ¬ S it) : ItG cd m left w' r it := by
  obtain ⟨es, c, since, seen, c0, q1, q2, q3, q4, q5⟩ := h
  exact ⟨es, c, since, seen, c0, (u.block r (lt_of_block q1) h1).trans q1, q2, q3, (u.block it (lt_of_block q4) h2).trans q4, q5⟩
theorem ItG.same {m left : List (α × β)} {w w' : World} {r it : Nat} (h : ItG cd m left w r it) (h1 : w'.heap[r]? = w.heap[r]?) (h2 : w'.heap[it]? = w.heap[it]?) : ItG cd m left w' r it := by
  obtain ⟨es, c, since, seen, c0, q1, q2, q3, q4, q5⟩ := h
  exact ⟨es, c, since, seen, c0, h1.trans q1, q2, q3, h2.trans q4, q5⟩
theorem ItG.map {m left : List (α × β)} {w : World} {r it : Nat} (h : ItG cd m left w r it) : ∃ a b, w.heap[r]? = some (.map a b) := by obtain ⟨es, c, since, seen, c0, q1, q2, q3, q4, q5⟩ := h; exact ⟨_, _, q1⟩
end steps2
end Go.Proofs.YtjdcpnaocjddoaaGreatDoor
namespace Go.Proofs.YtjdcpnaocjddoaaGreatDoor
open Go Go.RowKit Go.Proofs.Tryz
/-! ### a season: the map of tons, and sums -/
section
variable {α β : Type} [DecidableEq α]
def upR (a : α) (v : β) : List (α × β) → List (α × β)
  | [] => [(a, v)]
  | p :: m => if a = p.1 then (a, v) :: m else p :: upR a v m
def gtR (a : α) : List (α × β) → Option β
  | [] => none
  | p :: m => if a = p.1 then some p.2 else gtR a m
theorem fG_shift (a : α) : ∀ (m : List (α × β)) (i : Nat), fG m a (i + 1) = (fG m a i).map fun p => (p.1 + 1, p.2)
  | [], _ => rfl
  | p :: m, i => by
    unfold fG
    split
    · rfl
    · exact fG_shift a m (i + 1)
theorem gtG_eq (a : α) : ∀ (m : List (α × β)), gtG m a = gtR a m
  | [] => rfl
  | p :: m => by
    unfold gtG fG gtR
    split
    · rfl
    · rw [fG_shift, ← gtG_eq a m]
      unfold gtG
      cases fG m a 0 <;> rfl
theorem upG_eq (a : α) (v : β) : ∀ (m : List (α × β)), upG m a v = upR a v m
  | [] => rfl
  | p :: m => by
    have ih := upG_eq a v m
    unfold upG fG upR
    by_cases q : a = p.1
    · simp [q]
    · simp only [if_neg q]
      rw [fG_shift, ← ih]
      unfold upG
      cases fG m a 0 <;> rfl
theorem gtR_upR (a : α) (v : β) (b : α) : ∀ (m : List (α × β)), gtR b (upR a v m) = if b = a then some v else gtR b m
  | [] => by
    unfold upR gtR
    split <;> rfl
  | p :: m => by
    unfold upR
    split
    · rename_i e
      unfold gtR
      by_cases q : b = a
      · simp [q]
      · rw [if_neg q, if_neg q, if_neg (by rw [← e]; exact q)]
    · rename_i e
      rw [gtR, gtR_upR a v b m]
      by_cases q : b = a
      · subst q; rw [if_neg e, if_pos rfl, if_pos rfl]
      · rw [if_neg q, if_neg q, ← gtR]
end
def gI (m : List (Int × Int)) (b : Int) : Int := (gtG m b).getD 0
theorem gI_up (m : List (Int × Int)) (a v b : Int) : gI (upG m a v) b = if b = a then v else gI m b := by
  unfold gI
  rw [gtG_eq, gtG_eq, upG_eq, gtR_upR]
  split <;> rfl
section
variable {rd : Option Nat} {P : Program} {ops : Array Oper} {Q : Exit → Act → World → Prop} {N : Nat} {ds : List Deferred} {rest : List Oper} {L : Slots} {w : World}
variable {d : Nat} {ty : TypeId} {pos : String} {aft : Array Edge} {g : Option (Nat × Bool)}
end
theorem tonP_le {b : Int} : ∀ {c : List Crg}, (∀ x ∈ c, 0 ≤ x.t) → 0 ≤ tonP b c ∧ tonP b c ≤ tonP 0 c
  | [], _ => by simp [tonP]
  | x :: c, h => by
    have h1 := tonP_le (b := b) (c := c) (fun y hy => h y (List.mem_cons_of_mem _ hy))
    have h2 := h x List.mem_cons_self
    simp only [tonP, true_or, if_true]
    split <;> omega
theorem tonP_next {b : Int} {c : List Crg} {k : Nat} (hk : k < c.length) : tonP b (c.take (k + 1)) = tonP b (c.take k) + (if b = 0 ∨ (nth c k).b = b then (nth c k).t else 0) := by
  rw [take_nth hk, tonP_snoc]
def allR (b : Int) (rs : List HR) : Int := allT b (rs.map HR.hul)
theorem allT_range {b : Int} : ∀ {l : List Hul}, (∀ h ∈ l, (∀ x ∈ h.c, 0 ≤ x.t) ∧ tonP 0 h.c ≤ 100000) → 0 ≤ allT b l ∧ allT b l ≤ 100000 * (l.length : Int)
  | [], _ => by simp [allT]
  | h :: l, hh => by
    have h1 := allT_range (b := b) (l := l) (fun y hy => hh y (List.mem_cons_of_mem _ hy))
    have h2 := hh h List.mem_cons_self
    have h3 := tonP_le (b := b) h2.1
    simp only [allT, List.length_cons]; omega
/-- The tons in a map. -/
def MapT (m : List (Int × Int)) (F : Int → Int) : Prop := ∀ b, b ≠ 0 → gI m b = F b
theorem MapT.up {m : List (Int × Int)} {F G : Int → Int} {a v : Int} (h : MapT m F) (ha : v = G a) (hG : ∀ b, b ≠ 0 → b ≠ a → G b = F b) : MapT (upG m a v) G := fun b hb => by
  rw [gI_up]
  by_cases q : b = a
  · rw [if_pos q, q, ha]
  · rw [if_neg q, h b hb, hG b hb q]
theorem MapT.cg {m : List (Int × Int)} {A : Int → Int} {c : List Crg} {k : Nat} (h : MapT m (fun b => A b + tonP b (c.take k))) (hk : k < c.length) (hb : (nth c k).b ≠ 0) : MapT (upG m (nth c k).b (gI m (nth c k).b + (nth c k).t)) (fun b => A b + tonP b (c.take (k + 1))) := by
  refine h.up ?_ (fun b hb0 hn => ?_)
  · show _ = A _ + _
    rw [h _ hb, tonP_next hk, if_pos (.inr rfl)]
    show A _ + _ + _ = _
    omega
  · show A _ + _ = A _ + _
    rw [tonP_next hk, if_neg (fun q => q.elim hb0 (fun q => hn q.symm))]; omega
theorem CgOk.pos {T : Int} {c : List Crg} (h : CgOk T c) : ∀ x ∈ c, 0 ≤ x.t := fun x hx => by have := h.2 x hx; omega
theorem CgOk.at_ {T : Int} {c : List Crg} {k : Nat} (h : CgOk T c) (hk : k < c.length) : (1 ≤ (nth c k).b ∧ (nth c k).b ≤ 9999) ∧ (1 ≤ (nth c k).t ∧ (nth c k).t ≤ T) := h.2 _ (nth_mem hk)
theorem CgOk.sum {T : Int} {c : List Crg} (h : CgOk T c) (hT : 0 ≤ T ∧ T ≤ 1000000000) (b : Int) : 0 ≤ tonP b c ∧ tonP b c ≤ 10000000000000 := by
  suffices ∀ l : List Crg, (∀ x ∈ l, 0 ≤ x.t ∧ x.t ≤ 1000000000) → 0 ≤ tonP b l ∧ tonP b l ≤ 1000000000 * (l.length : Int) by
    have h1 := this c (fun x hx => by have := h.2 x hx; omega)
    have h2 := h.len
    omega
  intro l
  induction l with
  | nil => intro _; simp [tonP]
  | cons x l ih =>
    intro hl
    have h1 := ih (fun y hy => hl y (List.mem_cons_of_mem _ hy))
    have h2 := hl x List.mem_cons_self
    simp only [tonP, List.length_cons]
    split <;> omega
theorem SeaOk.hulls {T : Int} {V : SG} (h : SeaOk T V.st) (b : Int) (i : Nat) : 0 ≤ allR b (V.rs.take i) ∧ allR b (V.rs.take i) ≤ 100000 * (V.rs.length : Int) := by
  have h1 : ∀ y ∈ (V.rs.take i).map HR.hul, (∀ x ∈ y.c, 0 ≤ x.t) ∧ tonP 0 y.c ≤ 100000 := fun y hy => by
    obtain ⟨r, hr, rfl⟩ := List.mem_map.1 hy
    have h2 := h.hul (HR.hul r) (List.mem_map.2 ⟨r, List.mem_of_mem_take hr, rfl⟩)
    exact ⟨h2.2.2.1.pos, h2.2.2.2⟩
  have h3 := allT_range (b := b) h1
  unfold allR
  rw [List.length_map, List.length_take] at h3
  omega
/-! ### a season: replays, one by one and all together -/
/-- A list with one entry that lies in a block of its own. -/
theorem Sl.one {x : Ent} {w : World} {b : Nat} (h : Blk w b 43 [.int .i64 x.m, .int .i64 x.k, .int .i64 x.h, .int .i64 x.p, .int .i64 x.b, .int .i64 x.t]) : Sl encEnt 6 w (some ⟨b, 0, none⟩) b 0 [x] := Sl.ofBlk (enc := encEnt) (k := 6) (xs := [x]) (fun _ => rfl) h
theorem SeaOk.parts {T : Int} {V : SG} (h : SeaOk T V.st) : V.rs.length ≤ 999 ∧ V.ld.length ≤ 9999 ∧ V.un.length ≤ 9999 ∧ ∀ r ∈ V.rs, r.c.length ≤ 9999 := ⟨h.rlen, h.ld.len, h.un.len, fun r hr => (h.rhul r hr).2.2.1.len⟩
theorem Bal.at_ {V : SG} (h : Bal V.st) (b : Int) : allR b V.rs + tonP b V.un = tonP b V.ld := h b
end Go.Proofs.YtjdcpnaocjddoaaGreatDoor
namespace Go.Proofs.YtjdcpnaocjddoaaGreatDoor
open Go Go.RowKit Go.Proofs.Tryz
theorem rIn_c (n a b : Int) (w0 : World) :
    CallsV Tryz.prog 97 [.int .i64 n, .int .i64 a, .int .i64 b] w0 (fun v w' => v = .bool (decide (a ≤ n ∧ n ≤ b)) ∧ Ext w0 w') := by
 refine f_n func97 ?_
 refine go ?_
 refine t_splitp 10 rfl (fun g10 => ?_) (fun g10 => ?_)
 ·
  refine go ?_
  refine f_1 results97 ?_
  exact ⟨congrArg Value.bool (by first | exact (decide_eq_false (by omega)).symm | exact (decide_eq_true (by omega)).symm | exact decide_eq_decide.2 (by omega)), u_d⟩
 refine go ?_
 refine f_1 results97 ?_
 exact ⟨congrArg Value.bool (by first | exact (decide_eq_false (by omega)).symm | exact (decide_eq_true (by omega)).symm | exact decide_eq_decide.2 (by omega)), u_d⟩

end Go.Proofs.YtjdcpnaocjddoaaGreatDoor
namespace Go.Proofs.YtjdcpnaocjddoaaGreatDoor
open Go Go.RowKit Go.Proofs.Tryz
end Go.Proofs.YtjdcpnaocjddoaaGreatDoor
namespace Go.Proofs.YtjdcpnaocjddoaaGreatDoor
open Go Go.RowKit
/-! ### a log's closed form: chunks of 240 digits, blocks out of them, groups of four blocks and their parity -/
/-! groups -/
/-! digits of bytes -/
/-! the bytes of all chunks -/
/-! ### the reference's Data and Write -/
/-! the reference's Write: groups of up to four -/
theorem u8_ofN {n : Nat} (h : n < 256) : ((UInt8.ofNat n).toNat : Int) = (n : Int) := by
  rw [UInt8.toNat_ofNat']; omega
/-! the reference's Bits -/
end Go.Proofs.YtjdcpnaocjddoaaGreatDoor
namespace Go.Proofs.YtjdcpnaocjddoaaGreatDoor
open Go Go.RowKit Go.Proofs.Tryz
instance : DecidableEq Ent := fun a b => if h : a.m = b.m ∧ a.k = b.k ∧ a.h = b.h ∧ a.p = b.p ∧ a.b = b.b ∧ a.t = b.t then isTrue (by cases a; cases b; simp at h; simp [h]) else isFalse (fun e => h (by rw [e]; exact ⟨rfl, rfl, rfl, rfl, rfl, rfl⟩))

end Go.Proofs.YtjdcpnaocjddoaaGreatDoor
namespace Go.Proofs.YtjdcpnaocjddoaaGreatDoor
open Go Go.RowKit

theorem Upd.putObj (w : World) (l : Nat) (o : Obj) : Upd (· = l) w (w.putObj l o) := ⟨rfl, rfl, rfl, by simp, fun k _ hn => World.putObj_heap_other hn⟩

/-- What may turn is cells. -/
def CellsIn (S : Nat → Prop) (w : World) : Prop := ∀ k, k < w.heap.size → S k → ∃ cur t f, w.heap[k]? = some (.cells cur t f)

theorem CellsIn.none (w : World) : CellsIn (fun _ => False) w := fun _ _ h => h.elim
theorem Blk.cellsIn {w : World} {b : Nat} {t : TypeId} {cs : List Value} (h : Blk w b t cs) : CellsIn (· = b) w := fun k _ e => by subst e; exact ⟨_, _, _, h⟩
theorem Acc.cellsIn {α : Type} {enc : α → List Value} {k : Nat} {e : TypeId} {base : Nat} {w : World} {ao : Option Addr} {g cap : Nat} {xs : List α} (h : Acc enc k e base w ao g cap xs) : CellsIn (fun i => i = g ∧ base ≤ i) w := fun i _ hi => by
  rcases h.at_ with ⟨_, _, _, h1⟩ | ⟨_, _, cur, h1, _⟩
  · omega
  · rw [hi.1]; exact ⟨_, _, _, h1⟩
theorem CellsIn.or {S T : Nat → Prop} {w : World} (h : CellsIn S w) (k : CellsIn T w) : CellsIn (fun i => S i ∨ T i) w := fun i hi h' => h'.elim (h i hi) (k i hi)

theorem KeepsFrom.of_upd {S : Nat → Prop} {B : Nat} {w w' : World} (u : Upd S w w') (h : CellsIn S w) : KeepsFrom B w w' :=
  ⟨u.size, fun k o _ hk ho => (u.block k (Array.getElem?_eq_some_iff.1 hk).1 (fun hs => by
    obtain ⟨c, t, f, hc⟩ := h k (Array.getElem?_eq_some_iff.1 hk).1 hs
    rw [hk] at hc
    cases hc
    cases ho)).trans hk⟩

/-! ### The marks of ended loops among the deferred calls -/
def mark (D : Nat) : Deferred := { target := .collected D, args := #[] }

/-- The deferred calls are the marks of loops in whose rounds nothing was deferred. -/
def Marks (base : Nat) : List Deferred → World → Prop
  | [], _ => True
  | d :: ds, w => (∃ D, d = mark D ∧ base ≤ D ∧ w.heap[D]? = some (.deferred (some [])) ∧ (∀ d' ∈ ds, ∀ D', d' = mark D' → D' < D)) ∧ Marks base ds w

theorem Marks.keep {base : Nat} {S : Nat → Prop} : ∀ {ds : List Deferred} {w w' : World}, Marks base ds w → Upd S w w' → CellsIn S w → Marks base ds w'
  | [], _, _, _, _, _ => trivial
  | d :: ds, w, w', h, u, hc => by
    obtain ⟨⟨D, h1, h2, h3, h4⟩, h5⟩ := h
    refine ⟨⟨D, h1, h2, ?_, h4⟩, h5.keep u hc⟩
    have hlt := lt_of_block h3
    refine (u.block D hlt (fun hs => ?_)).trans h3
    obtain ⟨c, t, f, hq⟩ := hc D hlt hs
    rw [h3] at hq
    cases hq

theorem Marks.lt {base : Nat} : ∀ {ds : List Deferred} {w : World}, Marks base ds w → ∀ d ∈ ds, ∀ D, d = mark D → D < w.heap.size
  | [], _, _, d, hd, _, _ => by cases hd
  | d :: ds, w, h, d', hd, D', e => by
    obtain ⟨⟨D, h1, h2, h3, h4⟩, h5⟩ := h
    rcases List.mem_cons.1 hd with rfl | hd
    · rw [h1] at e
      injection e with e
      injection e with e
      subst e
      exact lt_of_block h3
    · exact h5.lt d' hd D' e

theorem Marks.keepLow {base : Nat} {S : Nat → Prop} {B : Nat} : ∀ {ds : List Deferred} {w w' : World}, Marks base ds w → Upd S w w' → (∀ d ∈ ds, ∀ D, d = mark D → D < B) → (∀ k, S k → B ≤ k) → Marks base ds w'
  | [], _, _, _, _, _, _ => trivial
  | d :: ds, w, w', h, u, hB, hS => by
    obtain ⟨⟨D, h1, h2, h3, h4⟩, h5⟩ := h
    refine ⟨⟨D, h1, h2, ?_, h4⟩, h5.keepLow u (fun d' hd' => hB d' (by simp [hd'])) hS⟩
    exact (u.block D (lt_of_block h3) (fun hs => by have := hB d (by simp) D h1; have := hS D hs; omega)).trans h3

theorem Marks.push {base : Nat} {ds : List Deferred} {w : World} {D : Nat} (h : Marks base ds w) (hb : base ≤ D) (hD : w.heap[D]? = some (.deferred (some []))) (hn : ∀ d ∈ ds, ∀ D', d = mark D' → D' < D) : Marks base (mark D :: ds) w :=
  ⟨⟨D, rfl, hb, hD, hn⟩, h⟩

section steps
variable {rd : Option Nat} {P : Program} {ops : Array Oper} {Q : Exit → Act → World → Prop} {N : Nat} {ds : List Deferred} {rest : List Oper} {L : Slots} {w : World}
variable {d : Nat} {ty : TypeId} {pos : String} {aft : Array Edge} {g : Option (Nat × Bool)} {c : Code}

theorem roundIn_rnd {n m : Nat} {l : Nat} {f : FuncId} {tmps : Array Value} {assign body : Code} {R : Ending → World → Prop} (h : RoundIn Fence.wide m P l f tmps assign body w R) : RoundIn (rnd rd) n P l f tmps assign body w R := by
  obtain ⟨_, h2⟩ := h
  refine ⟨rnd_fn _ _, fun c cs _ => ?_⟩
  have := h2 c cs (room_wide _)
  cases rd with
  | none => exact this
  | some l => exact this

/-- A call of yield: one round. -/
theorem t_yield {f : Operand} {l m : Nat} {xs : Array Operand} {ats : Array TypeId} {vs : List Value} {R : Ending → World → Prop} (hg : grd ops L g = true) (hN : Nat.blt d N = true)
    (hf : ev L f = some (.func (.yield l) #[] #[])) (hv : evs L xs.toList = some vs) (hy : YieldAt Fence.wide m P l vs.toArray w R) (hR : ∀ e w', R e w' → ∃ v, e = .returned v)
    (h : ∀ v w', R (.returned v) w' → WL rd P ops Q N ds rest ((d, v) :: L) w') : WL rd P ops Q N ds (⟨some d, .call ⟨.value f, xs, ats⟩, ty, pos, aft, g⟩ :: rest) L w := by
  refine ⟨fun a ha => ?_⟩
  obtain ⟨fn, tmps, assign, body, hy1, hy2⟩ := hy
  have e1 : xs.map a.eval = vs.toArray := by rw [← ha.evs hv, ← Array.toList_map]
  have hr : (execOp a.eval ⟨some d, .call ⟨.value f, xs, ats⟩, ty, pos, aft, g⟩).run P w = .ok (.round l fn tmps assign body) w := by
    simp [execOp, resolve, ha.ev hf, Deferred.ofValue, invoke, e1, hy1]
  unfold wpListIn
  rw [if_pos (ha.wanted (o := ⟨some d, .call ⟨.value f, xs, ats⟩, ty, pos, aft, g⟩) hg)]
  unfold Oper.wpIn
  refine ⟨fun f _ => rnd_fn _ f, ?_⟩
  rw [semAt_of_ok (by simp) hr, Oper.uponIn_round]
  refine ⟨fun h => by simp [rnd_depth] at h, RoundIn.mono (roundIn_rnd hy2) ?_⟩
  intro e w' r
  obtain ⟨v, rfl⟩ := hR e w' r
  exact h v w' r _ (ha.put v hN)

theorem f_enterM {R : Value → World → Prop} {f : FuncId} {fn : Func} {vs : List Value} (hf : P.funcs[f]? = some fn) (hb : fn.body = some c) (hn : Nat.ble vs.length N = true) (hN : fn.ntmps = N)
    (h : WC none P (bodyPostM (rnd none) 3 P fn fun e w' => ∃ v, e = .returned v ∧ R v w') N [] c (args 0 vs) w) : CallsV P f vs w R := by
  refine callsIn_wide.1 (callsIn_of_wp_marks (F := Fence.wide) (n := 3) hf hb trivial (h _ ⟨?_, rfl, ?_⟩))
  · have : vs.length ≤ N := Nat.le_of_ble_eq_true hn
    simp [hN]; omega
  · intro k v hk
    have ⟨_, h2⟩ := look_args vs 0 v hk
    rw [Array.getD_eq_getD_getElem?]
    have h3 : k < vs.length := by
      rcases Nat.lt_or_ge k vs.length with h | h
      · exact h
      · simp [List.getElem?_eq_none h] at h2
    rw [Array.getElem?_append_left (by simpa using h3)]
    simpa using congrArg (fun o => o.getD undef) h2

def tmpRes (L : Slots) : ResultVar → Option Value
  | .tmp t => look t L
  | .cell _ _ => none

theorem tmpRes.run {r : ResultVar} {v : Value} (h : tmpRes L r = some v) {a : Act} (ha : Kn N ds L a) (w : World) : (resOf a.tmps r).run P w = .ok v w := by
  cases r with
  | tmp t => simp only [resOf, Sem.run_pure]; rw [ha.get _ _ h]
  | cell s t => cases h

end steps
end Go.Proofs.YtjdcpnaocjddoaaGreatDoor
namespace Go.Proofs.YtjdcpnaocjddoaaGreatDoor
open Go Go.RowKit Go.Proofs.Tryz
/-! ### bytes in blocks -/
def mk32 (l : List UInt8) : Bk := if h : l.length = 32 then ⟨l, h⟩ else zeroBk
theorem mk32_l {l : List UInt8} (h : l.length = 32) : (mk32 l).l = l := by unfold mk32; rw [dif_pos h]
def ckP (b : List UInt8) (k : Nat) : List UInt8 := (b.drop (32 * k)).take 32
/-- the blocks of bytes -/
def blksP (b : List UInt8) (m : Nat) : List Bk := (List.range m).map fun k => mk32 (ckP b k)
/-- what open returns -/
def opE (b : List UInt8) : Int := if b.length % 32 ≠ 0 ∨ b.length / 32 < 2 ∨ b.length / 32 % 5 = 1 then 4 else if 1300 < b.length / 32 then 5 else 0
def opP (b : List UInt8) : List Bk := if opE b = 0 then blksP b (b.length / 32) else []
theorem mk32_bytes (v : Bk) : mk32 v.l = v := Bk.ext' (mk32_l v.h)
theorem ckP_bytes : ∀ (v : List Bk) (i : Nat) (h : i < v.length), ckP (bytesP v) i = v[i].l
  | x :: v, 0, _ => by
    have e : bytesP (x :: v) = x.l ++ bytesP v := rfl
    have hx := x.h
    unfold ckP
    rw [e, Nat.mul_zero, List.drop_zero, List.take_append_of_le_length (by omega), List.take_of_length_le (by omega)]; rfl
  | x :: v, i + 1, h => by
    have e : bytesP (x :: v) = x.l ++ bytesP v := rfl
    have hx := x.h
    have ih := ckP_bytes v i (by simpa using h)
    unfold ckP at ih ⊢
    rw [e, List.drop_append, List.drop_of_length_le (by omega), List.nil_append, hx, show 32 * (i + 1) - 32 = 32 * i by omega]
    exact ih
theorem blksP_of (v : List Bk) : blksP (bytesP v) v.length = v := by
  refine List.ext_getElem? fun i => ?_
  unfold blksP
  rw [List.getElem?_map]
  rcases Nat.lt_or_ge i v.length with h | h
  · rw [List.getElem?_range h, List.getElem?_eq_getElem h]
    show some (mk32 (ckP (bytesP v) i)) = some v[i]
    rw [ckP_bytes v i h, mk32_bytes]
  · rw [List.getElem?_eq_none (by rw [List.length_range]; exact h), List.getElem?_eq_none h]; rfl
end Go.Proofs.YtjdcpnaocjddoaaGreatDoor
namespace Go.Proofs.YtjdcpnaocjddoaaGreatDoor
open Go Go.RowKit

/-- Of what lay in w only the marks' blocks may read otherwise. -/
abbrev OffMarks (ds : List Deferred) (w w' : World) : Prop := Upd (fun i => ∃ d ∈ ds, d = mark i) w w'
theorem leavesInM_marksC {P : Program} {fn : Func} {tmps : Array Value} {R : Value → World → Prop} {base : Nat} {v : Value} : ∀ (ds : List Deferred) (w : World), (∀ w', OffMarks ds w w' → (results fn tmps).run P w' = .ok v w') → Marks base ds w → (∀ w', Upd (fun i => base ≤ i) w w' → OffMarks ds w w' → R v w') →
    LeavesInM (rnd none) 3 P fn tmps (fun e w' => ∃ v, e = .returned v ∧ R v w') ds .returning w
  | [], w, hr, _, hR => ⟨v, hr w (Upd.refl _ _), v, rfl, hR w (Upd.refl _ _) (Upd.refl _ _)⟩
  | d :: ds, w, hr, h, hR => by
    obtain ⟨⟨D, rfl, h2, h3, h4⟩, h5⟩ := h
    refine ⟨by simp, .inl ⟨D, _, rfl, run_takeDeferred h3, ?_⟩⟩
    have u := Upd.putObj w D (.deferred none)
    have hm : Marks base ds (w.putObj D (.deferred none)) := h5.keepLow u h4 (fun k hk => by omega)
    have uo : ∀ {w'}, OffMarks ds (w.putObj D (.deferred none)) w' → OffMarks (mark D :: ds) w w' := fun {w'} h => (u.mono (fun k hk => ⟨mark D, by simp, by subst hk; rfl⟩)).trans (h.mono (fun k ⟨d, h1, h2⟩ => ⟨d, by simp [h1], h2⟩))
    exact leavesInM_marksC ds _ (fun w' h => hr w' (uo h)) hm (fun w' u' h => hR w' ((u.mono (fun k hk => by omega)).trans u') (uo h))
theorem Marks.notCells {base : Nat} {b : Nat} {c : Array Value} {t : TypeId} {f : Nat × Nat} : ∀ {ds : List Deferred} {w : World}, Marks base ds w → w.heap[b]? = some (.cells c t f) → ¬ ∃ d ∈ ds, d = mark b
  | [], _, _, _, h => by obtain ⟨_, h, _⟩ := h; cases h
  | d :: ds, w, h, hb, hq => by
    obtain ⟨⟨D, h1, h2, h3, h4⟩, h5⟩ := h
    obtain ⟨d', hd, e⟩ := hq
    rcases List.mem_cons.1 hd with rfl | hd
    · rw [h1] at e
      injection e with e
      injection e with e
      subst e
      rw [h3] at hb
      cases hb
    · exact h5.notCells hb ⟨d', hd, e⟩
theorem Marks.notBlk {base : Nat} {b : Nat} {t : TypeId} {cs : List Value} {ds : List Deferred} {w : World} (h : Marks base ds w) (hb : Blk w b t cs) : ¬ ∃ d ∈ ds, d = mark b := h.notCells hb
/-- A result, read behind the marks. -/
def ResM (P : Program) (ds : List Deferred) (w : World) (L : Slots) (r : ResultVar) (v : Value) : Prop := ∀ w', OffMarks ds w w' → Res P w' L r v
theorem ResM.tmp {P : Program} {ds : List Deferred} {w : World} {L : Slots} {t : Nat} {v : Value} (h : look t L = some v) : ResM P ds w L (.tmp t) v := fun _ _ => h
theorem ResM.cell {P : Program} {ds : List Deferred} {w : World} {L : Slots} {s t b off base : Nat} {t' : TypeId} {cs : List Value} {v : Value} (hm : Marks base ds w) (hl : look s L = some (.pointer (some ⟨b, off, none⟩))) (ha : ∀ w, (isAgg t).run P w = .ok false w) (hb : Blk w b t' cs) (hv : cs[off]? = some v) : ResM P ds w L (.cell s t) v :=
  fun _w' u => ⟨b, off, hl, run_loadVar1 ha ((hb.keep u (hm.notBlk hb)).get hv)⟩

section steps
variable {P : Program} {N : Nat} {ds : List Deferred} {L : Slots} {w : World}
theorem f_retMc3 {R : Value → World → Prop} {fn : Func} {r1 r2 r3 : ResultVar} {v1 v2 v3 : Value} {base : Nat} (hf : fn.results = #[r1, r2, r3]) (h1 : ResM P ds w L r1 v1) (h2 : ResM P ds w L r2 v2) (h3 : ResM P ds w L r3 v3) (hm : Marks base ds w) (hR : ∀ w', Upd (fun i => base ≤ i) w w' → OffMarks ds w w' → R (.tuple #[v1, v2, v3]) w') :
    QK (bodyPostM (rnd none) 3 P fn (fun e w' => ∃ v, e = .returned v ∧ R v w') .ret) N ds L w := by
  refine ⟨fun a ha => ?_⟩
  show LeavesInM (rnd none) 3 P fn a.tmps _ a.defers .returning w
  rw [ha.defers]
  refine leavesInM_marksC ds w (fun w' u => ?_) hm hR
  have e1 := Res.run (h1 w' u) ha
  have e2 := Res.run (h2 w' u) ha
  have e3 := Res.run (h3 w' u) ha
  rw [results_of, hf]
  simp [e1, e2, e3]
end steps
end Go.Proofs.YtjdcpnaocjddoaaGreatDoor
namespace Go.Proofs.YtjdcpnaocjddoaaGreatDoor
open Go Go.RowKit Go.Proofs.Tryz
end Go.Proofs.YtjdcpnaocjddoaaGreatDoor
namespace Go.Proofs.YtjdcpnaocjddoaaGreatDoor
open Go Go.RowKit Go.Proofs.Tryz
/-! ### damaged blocks are restored -/
def gF (k : Nat) : Nat := k - k % 5
def gL (n k : Nat) : Nat := min (gF k + 4) (n - 1)
def badB (v : List Bk) (k : Nat) : Bool := !decide ((nth v k).l.drop 30 = chkP (nth v k).l k)
def badP (v : List Bk) : List Nat := (List.range v.length).filter (badB v)
def nats (l : List Nat) : List Int := l.map fun k : Nat => (k : Int)
def mixG (v : List Bk) (k f : Nat) : Nat → Bk
  | 0 => zeroBk
  | n + 1 => if f + n = k then mixG v k f n else (mixG v k f n).mix (nth v (f + n))
def rst (v : List Bk) (k : Nat) : Bk := (mixG v k (gF k) (gL v.length k + 1 - gF k)).shutB k
def fixG (p : Int) (v : List Bk) : List Nat → Option (List Bk)
  | [] => some v
  | k :: r => if ((gF k : Nat) : Int) ≤ p then none else fixG (k : Int) (v.set k (rst v k)) r
/-- what Repair returns -/
def repR (b : List UInt8) : List UInt8 × List Int × Int :=
  if opE b ≠ 0 then ([], [], opE b) else match fixG (-1) (opP b) (badP (opP b)) with
    | none => ([], [], 121)
    | some v => (bytesP v, nats (badP (opP b)), 0)
theorem fix_none {p : Int} {v : List Bk} {k : Nat} {r : List Nat} (h : ((gF k : Nat) : Int) ≤ p) : fixG p v (k :: r) = none := by
  show (if _ then _ else _) = _
  rw [if_pos h]
theorem fix_step {p : Int} {v : List Bk} {k : Nat} {r : List Nat} (h : ¬ ((gF k : Nat) : Int) ≤ p) : fixG p v (k :: r) = fixG (k : Int) (v.set k (rst v k)) r := by
  show (if _ then _ else _) = _
  rw [if_neg h]
theorem gF_le (k : Nat) : gF k ≤ k := Nat.sub_le _ _
end Go.Proofs.YtjdcpnaocjddoaaGreatDoor
namespace Go.Proofs.YtjdcpnaocjddoaaGreatDoor
open Go Go.RowKit
/-! ### a log's groups: what is damaged can be restored -/
/-- byte j of blocks f, f+1, .., taken together -/
def bxA (v : List Bk) (f j : Nat) : Nat → UInt8
  | 0 => 0
  | n + 1 => bxA v f j n ^^^ nth (nth v (f + n)).l j
/-- blocks in groups: each is sound, and each group's bytes cancel out -/
structure GoodV (v : List Bk) : Prop where
  two : 2 ≤ v.length
  mod : v.length % 5 ≠ 1
  ok : ∀ k, k < v.length → (nth v k).l.drop 30 = chkP (nth v k).l k
  par : ∀ f, f % 5 = 0 → f < v.length → ∀ j, j < 30 → bxA v f j (min 5 (v.length - f)) = 0
/-! ### damage is seen: a sound block with one byte changed is not sound -/
def Bk.put (b : Bk) (j : Nat) (x : UInt8) : Bk := ⟨b.l.set j x, by rw [List.length_set]; exact b.h⟩
/-! ### damage, group by group -/
structure Dmg (v U : List Bk) (m : Nat) (ks : List Nat) : Prop where
  len : U.length = v.length
  lt : ∀ k ∈ ks, k < m ∧ k < v.length ∧ badB U k = true
  ok : ∀ k, k < v.length → k ∉ ks → nth U k = nth v k
  pw : ks.Pairwise (fun a b => a < gF b)
theorem Dmg.nil (v : List Bk) : Dmg v v 0 [] := ⟨rfl, fun k h => absurd h (by simp), fun _ _ _ => rfl, List.Pairwise.nil⟩
theorem Dmg.mono {v U : List Bk} {m m' : Nat} {ks : List Nat} (h : Dmg v U m ks) (hm : m ≤ m') : Dmg v U m' ks := ⟨h.len, fun k hk => ⟨by have := (h.lt k hk).1; omega, (h.lt k hk).2⟩, h.ok, h.pw⟩
theorem badB_congr {u v : List Bk} {k : Nat} (h : nth u k = nth v k) : badB u k = badB v k := by unfold badB; rw [h]
theorem Dmg.same {v U : List Bk} {m k : Nat} {ks : List Nat} (h : Dmg v U m ks) (hm : m ≤ k) (hk : k < v.length) : nth U k = nth v k := h.ok k hk (fun hq => by have := (h.lt k hq).1; omega)
theorem badB_set {U : List Bk} {k : Nat} {c : Bk} (hk : k < U.length) (h : ¬ c.l.drop 30 = chkP c.l k) : badB (U.set k c) k = true := by
  unfold badB
  rw [nth_setE hk, decide_eq_false h]; rfl
theorem Dmg.step {v U : List Bk} {m m' k : Nat} {ks : List Nat} {c : Bk} (h : Dmg v U m ks) (h5 : m % 5 = 0) (h1 : m ≤ k) (h2 : k < m + 5) (hm : k < m') (hk : k < v.length) (hc : ¬ c.l.drop 30 = chkP c.l k) : Dmg v (U.set k c) m' (ks ++ [k]) := by
  have hl := h.len
  refine ⟨by rw [List.length_set]; exact hl, fun q hq => ?_, fun q hq hn => ?_, ?_⟩
  · rcases List.mem_append.1 hq with hq | hq
    · have h9 := h.lt q hq
      exact ⟨by omega, h9.2.1, by rw [badB_congr (nth_setN (by omega) c)]; exact h9.2.2⟩
    · simp only [List.mem_singleton] at hq
      subst hq
      exact ⟨hm, hk, badB_set (by omega) hc⟩
  · have hne : q ≠ k := fun e => hn (by rw [e]; simp)
    rw [nth_setN hne]
    exact h.ok q hq (fun hm => hn (List.mem_append_left _ hm))
  · rw [List.pairwise_append]
    refine ⟨h.pw, List.pairwise_singleton _ _, fun a ha b hb => ?_⟩
    simp only [List.mem_singleton] at hb
    subst hb
    have := (h.lt a ha).1
    unfold gF; omega
theorem badP_sorted (v : List Bk) : (badP v).Pairwise (· < ·) := by
  unfold badP
  exact List.Pairwise.filter _ List.pairwise_lt_range
theorem badP_iff {v : List Bk} {k : Nat} : k ∈ badP v ↔ k < v.length ∧ badB v k = true := by
  unfold badP
  rw [List.mem_filter, List.mem_range]
theorem opE_bytes {v : List Bk} (hv : GoodV v) (h13 : v.length ≤ 1300) {U : List Bk} (hU : U.length = v.length) : opE (bytesP U) = 0 ∧ opP (bytesP U) = U := by
  have h2 := hv.two
  have h3 := hv.mod
  have e0 : opE (bytesP U) = 0 := by unfold opE; rw [bytesP_len, if_neg (by omega), if_neg (by omega)]
  refine ⟨e0, ?_⟩
  unfold opP
  rw [if_pos e0, bytesP_len, show 32 * U.length / 32 = U.length by omega, blksP_of]
theorem gF_mono {a b : Nat} (h : a ≤ b) : gF a ≤ gF b := by unfold gF; omega
theorem fix_two : ∀ (r : List Nat) (p : Int) (w : List Bk), r.Pairwise (· < ·) → ∀ a b, a ∈ r → b ∈ r → a < b → gF b ≤ a → fixG p w r = none
  | [], _, _, _, _, _, h, _, _, _ => absurd h (by simp)
  | k :: r, p, w, hp, a, b, ha, hb, hab, hg => by
    obtain ⟨hp1, hp2⟩ := List.pairwise_cons.1 hp
    by_cases q : ((gF k : Nat) : Int) ≤ p
    · exact fix_none q
    · rw [fix_step q]
      have hb' : b ∈ r := by
        rcases List.mem_cons.1 hb with e | e
        · exfalso
          rcases List.mem_cons.1 ha with e' | e'
          · omega
          · have := hp1 _ e'; omega
        · exact e
      rcases List.mem_cons.1 ha with e | e
      · subst e
        cases r with
        | nil => exact absurd hb' (by simp)
        | cons h r =>
          have hh : h ≤ b := by
            rcases List.mem_cons.1 hb' with e | e
            · omega
            · have := (List.pairwise_cons.1 hp2).1 _ e; omega
          have := gF_mono hh
          exact fix_none (by omega)
      · exact fix_two r k _ hp2 a b e hb' hab hg
theorem Dmg.none {v U : List Bk} {m k o : Nat} {ks : List Nat} {c : Bk} (h : Dmg v U m (k :: ks)) (hv : GoodV v) (h13 : v.length ≤ 1300) (ho : o < v.length) (hok : o ≠ k) (hog : gF o = gF k) (hc : ¬ c.l.drop 30 = chkP c.l o) : repR (bytesP (U.set o c)) = ([], [], 121) := by
  have hl : (U.set o c).length = v.length := by rw [List.length_set]; exact h.len
  obtain ⟨e0, e1⟩ := opE_bytes hv h13 hl
  have hk := h.lt k List.mem_cons_self
  have mk : k ∈ badP (U.set o c) := badP_iff.2 ⟨by omega, by rw [badB_congr (nth_setN (fun e => hok e.symm) c)]; exact hk.2.2⟩
  have mo : o ∈ badP (U.set o c) := badP_iff.2 ⟨by omega, badB_set (by rw [h.len]; exact ho) hc⟩
  have hn : fixG (-1) (U.set o c) (badP (U.set o c)) = Option.none := by
    rcases Nat.lt_or_gt_of_ne hok with q | q
    · exact fix_two _ _ _ (badP_sorted _) o k mo mk q (by rw [← hog]; exact gF_le o)
    · exact fix_two _ _ _ (badP_sorted _) k o mk mo q (by rw [hog]; exact gF_le k)
  unfold repR
  rw [if_neg (by omega), e1, hn]
theorem Dmg.first {v U : List Bk} {m k o : Nat} {ks : List Nat} (h : Dmg v U m (k :: ks)) (ho : o < v.length) (hok : o ≠ k) (hog : gF o = gF k) : nth U o = nth v o := by
  refine h.ok o ho fun hm => ?_
  rcases List.mem_cons.1 hm with e | e
  · exact hok e
  · have h9 := (List.pairwise_cons.1 h.pw).1 _ e
    have := gF_le k
    omega
/-! ### the law's own parts -/
end Go.Proofs.YtjdcpnaocjddoaaGreatDoor
namespace Go.Proofs.YtjdcpnaocjddoaaGreatDoor
open Go Go.RowKit
/-! ### a decoder's results -/
/-! ### a log is parsed -/
/-- what is left of a tape, and whether it broke off -/
structure Scr where
  r : List UInt8
  b : Bool
instance : Inhabited Scr := ⟨⟨[], false⟩⟩
end Go.Proofs.YtjdcpnaocjddoaaGreatDoor
namespace Go.Proofs.YtjdcpnaocjddoaaGreatDoor
open Go Go.RowKit Go.Proofs.Tryz
end Go.Proofs.YtjdcpnaocjddoaaGreatDoor
namespace Go.Proofs.YtjdcpnaocjddoaaGreatDoor
open Go Go.RowKit Go.Proofs.Tryz
/-! ### text in pieces -/
def pcs (c : UInt8) : List UInt8 → List (List UInt8)
  | [] => [[]]
  | x :: r => if x = c then [] :: pcs c r else (x :: (pcs c r).headD []) :: (pcs c r).tail
theorem pcs_ne (c : UInt8) : ∀ t : List UInt8, pcs c t ≠ []
  | [] => by unfold pcs; simp
  | x :: r => by unfold pcs; split <;> simp
theorem pcs_cut (c : UInt8) : ∀ (n : Nat) (t : List UInt8), n < t.length → (∀ k, k < n → nth t k ≠ c) → nth t n = c → pcs c t = t.take n :: pcs c (t.drop (n + 1))
  | _, [], h, _, _ => absurd h (Nat.not_lt_zero _)
  | 0, x :: r, _, _, h => by
    have e : x = c := h
    conv => lhs; unfold pcs
    rw [if_pos e]; rfl
  | n + 1, x :: r, hl, hn, h => by
    have e : x ≠ c := hn 0 (Nat.succ_pos n)
    have ih := pcs_cut c n r (by simpa using hl) (fun k hk => hn (k + 1) (Nat.succ_lt_succ hk)) h
    conv => lhs; unfold pcs
    rw [if_neg e, ih]; rfl
theorem pcs_one (c : UInt8) : ∀ (t : List UInt8), (∀ k, k < t.length → nth t k ≠ c) → pcs c t = [t]
  | [], _ => rfl
  | x :: r, h => by
    have e : x ≠ c := h 0 (Nat.succ_pos _)
    have ih := pcs_one c r (fun k hk => h (k + 1) (Nat.succ_lt_succ hk))
    unfold pcs
    rw [if_neg e, ih]; rfl
/-- pieces of s that end ahead of f are done -/
structure PcsI (c : UInt8) (s : List UInt8) (ws : List (List UInt8)) (f i : Nat) : Prop where
  fi : f ≤ i
  eq : pcs c s = ws ++ pcs c (s.drop f)
  no : ∀ k, f ≤ k → k < i → nth s k ≠ c
theorem PcsI.nil (c : UInt8) (s : List UInt8) : PcsI c s [] 0 0 := ⟨Nat.le_refl _, rfl, fun _k _ h => absurd h (Nat.not_lt_zero _)⟩
theorem PcsI.next {c : UInt8} {s : List UInt8} {ws : List (List UInt8)} {f i : Nat} (h : PcsI c s ws f i) (hc : nth s i ≠ c) : PcsI c s ws f (i + 1) :=
  ⟨Nat.le_succ_of_le h.fi, h.eq, fun k h1 h2 => by
    by_cases e : k = i
    · rw [e]; exact hc
    · exact h.no k h1 (by omega)⟩
theorem PcsI.cut {c : UInt8} {s : List UInt8} {ws : List (List UInt8)} {f i : Nat} (h : PcsI c s ws f i) (hi : i < s.length) (hc : nth s i = c) : PcsI c s (ws ++ [(s.drop f).take (i - f)]) (i + 1) (i + 1) := by
  have hf := h.fi
  refine ⟨Nat.le_refl _, ?_, fun k h1 h2 => by omega⟩
  have e := pcs_cut c (i - f) (s.drop f) (by rw [List.length_drop]; omega) (fun k hk => by rw [nth_drop]; exact h.no (f + k) (by omega) (by omega)) (by rw [nth_drop, show f + (i - f) = i by omega]; exact hc)
  rw [h.eq, e, List.drop_drop, List.append_assoc, show f + (i - f + 1) = i + 1 by omega]; rfl
theorem PcsI.last {c : UInt8} {s : List UInt8} {ws : List (List UInt8)} {f : Nat} (h : PcsI c s ws f s.length) : pcs c s = ws ++ [s.drop f] := by
  have e := pcs_one c (s.drop f) (fun k hk => by
    rw [List.length_drop] at hk
    rw [nth_drop]; exact h.no (f + k) (by omega) (by omega))
  rw [h.eq, e]
theorem pcs_len (c : UInt8) : ∀ t : List UInt8, (pcs c t).length ≤ t.length + 1
  | [] => Nat.le_refl _
  | x :: r => by
    have ih := pcs_len c r
    unfold pcs
    split
    · rw [List.length_cons, List.length_cons]; omega
    · rw [List.length_cons, List.length_tail, List.length_cons]; omega
def WdI (s : List UInt8) (ws : List (List UInt8)) (f i : Nat) : Prop := (i ≤ s.length ∧ PcsI 32 s ws f i) ∨ (i = s.length + 1 ∧ ws = pcs 32 s)
theorem WdI.at_ {s : List UInt8} {ws : List (List UInt8)} {f i : Nat} (h : WdI s ws f i) (hi : i ≤ s.length) : PcsI 32 s ws f i := by
  rcases h with h | h
  · exact h.2
  · omega
theorem WdI.end_ {s : List UInt8} {ws : List (List UInt8)} {f i : Nat} (h : WdI s ws f i) (hi : ¬ i ≤ s.length) : ws = pcs 32 s := by
  rcases h with h | h
  · omega
  · exact h.2
theorem WdI.cut {s : List UInt8} {ws : List (List UInt8)} {f i : Nat} (h : WdI s ws f i) (hi : i ≤ s.length) (hc : i = s.length ∨ nth s i = 32) : WdI s (ws ++ [(s.drop f).take (i - f)]) (i + 1) (i + 1) := by
  have h9 := h.at_ hi
  by_cases e : i = s.length
  · refine .inr ⟨by omega, ?_⟩
    subst e
    rw [h9.last, List.take_of_length_le (by rw [List.length_drop]; exact Nat.le_refl _)]
  · exact .inl ⟨by omega, h9.cut (by omega) (hc.resolve_left e)⟩
theorem WdI.next {s : List UInt8} {ws : List (List UInt8)} {f i : Nat} (h : WdI s ws f i) (hi : i ≤ s.length) (hc : ¬ (i = s.length ∨ nth s i = 32)) : WdI s ws f (i + 1) :=
  .inl ⟨by omega, (h.at_ hi).next (fun e => hc (.inr e))⟩
/-- the lines of a text -/
def linesP (s : List UInt8) : List (List UInt8) := (pcs 10 s).dropLast
def linesR (s : List UInt8) : List (List UInt8) × Int :=
  if 120000 < s.length then ([], 5) else if s ≠ [] ∧ nth s (s.length - 1) ≠ 10 then ([], 120) else if 200 < (linesP s).length then ([], 5) else (linesP s, 0)
/-! ### digits -/
def isDg (c : UInt8) : Bool := decide (48 ≤ (c.toNat : Int) ∧ (c.toNat : Int) ≤ 57)
/-- the number that the first digits (n at most) spell, behind v -/
def digV : Nat → Int → List UInt8 → Int
  | 0, v, _ => v
  | _, v, [] => v
  | n + 1, v, c :: r => if isDg c then digV n (10 * v + ((c.toNat : Int) - 48)) r else v
def digC : Nat → List UInt8 → Nat
  | 0, _ => 0
  | _, [] => 0
  | n + 1, c :: r => if isDg c then digC n r + 1 else 0
theorem digV_nil (n : Nat) (v : Int) : digV n v [] = v := by cases n <;> rfl
theorem digC_nil (n : Nat) : digC n [] = 0 := by cases n <;> rfl
theorem digV_step {n : Nat} {v : Int} {s : List UInt8} {i : Nat} (hi : i < s.length) (h : isDg (nth s i) = true) : digV (n + 1) v (s.drop i) = digV n (10 * v + (((nth s i).toNat : Int) - 48)) (s.drop (i + 1)) := by
  rw [drop_nth hi]
  show (if _ then _ else _) = _
  rw [if_pos h]
theorem digC_step {n : Nat} {s : List UInt8} {i : Nat} (hi : i < s.length) (h : isDg (nth s i) = true) : digC (n + 1) (s.drop i) = digC n (s.drop (i + 1)) + 1 := by
  rw [drop_nth hi]
  show (if _ then _ else _) = _
  rw [if_pos h]
theorem dig_stop {n : Nat} {v : Int} {s : List UInt8} {i : Nat} (h : ¬ (i < s.length ∧ 0 < n ∧ isDg (nth s i) = true)) : digV n v (s.drop i) = v ∧ digC n (s.drop i) = 0 := by
  cases n with
  | zero => exact ⟨rfl, rfl⟩
  | succ n =>
    by_cases hi : i < s.length
    · rw [drop_nth hi]
      have hd : ¬ isDg (nth s i) = true := fun e => h ⟨hi, Nat.succ_pos n, e⟩
      constructor
      · show (if _ then _ else _) = _
        rw [if_neg hd]
      · show (if _ then _ else _) = _
        rw [if_neg hd]
    · rw [List.drop_of_length_le (by omega), digV_nil, digC_nil]
      exact ⟨rfl, rfl⟩
set_option maxHeartbeats 4000000 in
theorem words_c (s : List UInt8) (w0 : World) (hsl : s.length ≤ 1000000) (hpos : 0 < w0.heap.size) :
    CallsV Tryz.prog 85 [.string (strB s)] w0 (fun v w' => (∃ a9 g9 c9, v = .slice a9 (List.length (pcs 32 s)) c9 ∧ Acc encStr 1 9 w0.heap.size w' a9 g9 c9 (pcs 32 s)) ∧ Ext w0 w') := by
 refine f_n func85 ?_
 refine go ?_
 refine x_l fun bk3 w4 ebk3 sbk3 B5 u6 => ?_
 refine go ?_
 refine x_l4 (fun i => i = bk3 ∨ w4.heap.size ≤ i) [0] (fun (i : Nat) (f : Nat) (ws : List (List UInt8)) (q : (Option Addr × Nat × Nat)) => [(3, .slice q.1 ws.length q.2.2), (4, .int .i64 (f : Int)), (5, .int .i64 (i : Int))]) (fun i f ws q w => (i ≤ s.length + 1) ∧ (f ≤ i) ∧ (Acc encStr 1 9 bk3 w q.1 q.2.1 q.2.2 ws) ∧ (q.2.1 = bk3 ∨ w4.heap.size ≤ q.2.1) ∧ (WdI s ws f i) ∧ (ws.length ≤ i)) (fun i f ws q => s.length + 1 - i) 0 0 ([]) (some ⟨bk3, 0, none⟩, bk3, 0) ⟨(Nat.zero_le _), (Nat.le_refl _), (Acc.ofBlk (xs := ([] : List (List UInt8))) encStr 1 (fun _ => rfl) B5 (Nat.le_refl _) (by decide)), (.inl rfl), (.inl ⟨Nat.zero_le _, PcsI.nil _ _⟩), (Nat.zero_le _)⟩ ?_
 rintro i f ws q w11 ⟨hi, hf, hA, hqW, hW, hwl⟩ u12 zu12 K10 hK10
 have lt_q_2_1 := hA.lt
 have hgl := hA.lt
 refine go ?_
 refine t_lenS underlying9 rfl rfl rfl rfl ?_
 refine go ?_
 refine q_p (fun g10 => ?_) fun g10 => ?_
 ·
  iterate 4 refine st1 ?_
  refine x_k1 (fun _ => False) [0, 3, 4, 5] (fun (z9 : Bool) => [(22, .bool z9)]) (fun z9 w => (z9 = decide (i = s.length ∨ nth s i = 32))) (fun K21 hK21 => ?_) ?_
  ·
   refine go ?_
   refine t_lenS underlying9 rfl rfl rfl rfl ?_
   refine go ?_
   refine t_splitp 17 rfl (fun g17 => ?_) (fun g17 => ?_)
   ·
    refine go ?_
    exact hK21 true (by first | exact (decide_eq_true (by omega)).symm | exact decide_eq_decide.2 ⟨fun h => .inr (UInt8.toNat_inj.1 (show (nth s i).toNat = 32 by omega)), fun h => by rcases h with h | h; omega; rw [h]; rfl⟩)
   refine go ?_
   refine t_idxS i underlying9 rfl rfl rfl rfl rfl (by omega) ?_
   refine go ?_
   exact hK21 (decide (((nth s i).toNat : Int) = 32)) (by first | exact (decide_eq_true (by omega)).symm | exact decide_eq_decide.2 ⟨fun h => .inr (UInt8.toNat_inj.1 (show (nth s i).toNat = 32 by omega)), fun h => by rcases h with h | h; omega; rw [h]; rfl⟩)
  rintro z9 w22 hz9 u23 zu23
  refine q_b (fun g22 => ?_) fun g22 => ?_
  ·
   have hzb : (i = s.length ∨ nth s i = 32) := by rw [hz9] at g22; exact of_decide_eq_true g22
   refine go ?_
   refine t_subS f i underlying9 rfl rfl rfl (.inl ⟨rfl, rfl, by first | rfl | omega⟩) (.inl ⟨rfl, rfl, by first | rfl | omega⟩) (by omega) (by omega) ?_
   refine x_l fun bk25 w26 ebk25 sbk25 B27 u28 => ?_
   have D30 := ((hA.keep u23 (fun _ h => h)).keep u28 (fun _ h => h))
   refine t_append (z := .string (strB ([]))) (bytes := 16) (k := 1) (base := bk3) ((s.drop f).take (i - f)) underlying105 (by kernel_rfl) rfl (by decide) (fun _ => rfl) (by intro x; simp [encStr, Value.oneCell']) rfl rfl rfl rfl D30 B27 (by omega) (by omega) (by decide) (fun ao31 gb32 cp33 w34 A35 u36 gegb32 lngb32 => ?_)
   have zu36 := u36.size
   have lt_gb32 := A35.lt
   refine go ?_
   exact hK10 (i + 1) (i + 1) (ws ++ [(s.drop f).take (i - f)]) (ao31, gb32, cp33) ⟨(by omega), (by omega), A35, (show gb32 = bk3 ∨ w4.heap.size ≤ gb32 by omega), (hW.cut (by omega) hzb), (by rw [List.length_append]; simp only [List.length_cons, List.length_nil]; omega)⟩
  have hzb : ¬ (i = s.length ∨ nth s i = 32) := by rw [hz9] at g22; exact of_decide_eq_false g22
  refine go ?_
  have D38 := (hA.keep u23 (fun _ h => h))
  exact hK10 (i + 1) f ws q ⟨(by omega), (by omega), D38, (show q.2.1 = bk3 ∨ w4.heap.size ≤ q.2.1 by omega), (hW.next (by omega) hzb), (by omega)⟩
 refine go ?_
 refine f_1 results85 ?_
 have hfin := hW.end_ (by omega)
 obtain ⟨gz, hz⟩ := Acc.lower (base' := w0.heap.size) hA (by omega) hpos
 rw [hfin] at hz
 exact ⟨⟨_, gz, _, by rw [hfin], hz⟩, u_d⟩

end Go.Proofs.YtjdcpnaocjddoaaGreatDoor
