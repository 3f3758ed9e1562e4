/-
  Part 13 of the proof: contracts and plain laws. Conditions: none.
-/
import Derived.Maps.RangeRun
import Derived.RangeFuncNested
import Derived.RangeFuncBound
import Derived.RangeFuncLeaves
import Derived.Test.YtjdcpnaocjddoaaGreatDoorJK12
namespace Go.Proofs.YtjdcpnaocjddoaaGreatDoor
open Go Go.RowKit Go.Proofs.Tryz
theorem Sl.ofBlk {α : Type} [Inhabited α] {enc : α → List Value} {k : Nat} (hk : ∀ x, (enc x).length = k) {w : World} {b : Nat} {t : TypeId} {xs : List α} (h : Blk w b t (xs.flatMap enc)) : Sl enc k w (some ⟨b, 0, none⟩) b 0 xs :=
  ⟨fun _ => rfl, fun _ => h.lt, fun i hi j v hv => by
    have h1 := flatMap_at hk xs i j v hi hv
    rw [Nat.zero_add]
    exact h.get h1⟩
/-! ### The document's examples -/
def knE1 : List Ent := [⟨2, 1, 1, 3, 0, 0⟩]
def knE4 : List Ent := [⟨0, 1, 1, 10, 0, 0⟩, ⟨0, 2, 1, 0, 5, 50⟩, ⟨0, 3, 1, 30, 0, 0⟩, ⟨0, 4, 1, 0, 5, 20⟩]
def knB (b : Nat) : Bil := ⟨5, 9, 1200, 10, 250, [3, 77], some ⟨b, 0, none⟩, b, 0, 2⟩
theorem kn_code : codeR 5 = ([48, 48, 49, 49, 48], 0) := by kernel_rfl
theorem kn_dec : decP [48, 48, 49, 49, 48, 49] = (5, 5, 0) := by kernel_rfl
theorem kn_log1 : chkE knE1 = 0 := by kernel_rfl
theorem kn_log2 : (logP knE1).length = 64 ∧ nth (logP knE1) 0 = 142 ∧ nth (logP knE1) 1 = 64 ∧ nth (logP knE1) 30 = 1 ∧ nth (logP knE1) 31 = 14 ∧ nth (logP knE1) 62 = 4 ∧ nth (logP knE1) 63 = 223 := ⟨by kernel_rfl, by kernel_rfl, by kernel_rfl, by kernel_rfl, by kernel_rfl, by kernel_rfl, by kernel_rfl⟩
theorem kn_rep : repP zSea knE4 = (0, 0, ⟨0, 1000, [⟨1, 30, [⟨5, 30⟩]⟩], [⟨5, 50⟩], [⟨5, 20⟩]⟩) := by kernel_rfl
theorem kn_i5 : Lib.itoa 5 = [53] := by simp [Lib.itoa, Lib.decDigits]
theorem kn_i9 : Lib.itoa 9 = [57] := by simp [Lib.itoa, Lib.decDigits]
theorem kn_i1200 : Lib.itoa 1200 = [49, 50, 48, 48] := by simp [Lib.itoa, Lib.decDigits]
theorem kn_i10 : Lib.itoa 10 = [49, 48] := by simp [Lib.itoa, Lib.decDigits]
theorem kn_i250 : Lib.itoa 250 = [50, 53, 48] := by simp [Lib.itoa, Lib.decDigits]
theorem kn_i3 : Lib.itoa 3 = [51] := by simp [Lib.itoa, Lib.decDigits]
theorem kn_i77 : Lib.itoa 77 = [55, 55] := by simp [Lib.itoa, Lib.decDigits]
def knT : List UInt8 := [53, 32, 57, 32, 49, 50, 48, 48, 32, 49, 48, 62, 50, 53, 48, 32, 51, 44, 55, 55, 32, 99, 108, 10]
theorem kn_chkB (b : Nat) : chkB 0 [knB b] = 0 := by kernel_rfl
theorem kn_bill (b : Nat) : billP (knB b) = knT := by
  unfold billP sealsP
  show sealedP [Lib.itoa 5, Lib.itoa 9, Lib.itoa 1200, Lib.itoa 10 ++ [62] ++ Lib.itoa 250, Lib.join [Lib.itoa 3, Lib.itoa 77] [44]] = knT
  rw [kn_i5, kn_i9, kn_i1200, kn_i10, kn_i250, kn_i3, kn_i77]
  kernel_rfl
theorem kn_txt (b : Nat) : textP [knB b] = (knT, 0) := by
  unfold textP
  rw [if_neg (by simp), if_pos (kn_chkB b)]
  have e : [knB b].flatMap billP = billP (knB b) := by simp
  rw [e, kn_bill]
theorem knCode_c (w0 : World) : CallsV Tryz.prog 24 [.int .i64 5] w0 fun v w' => v = .tuple #[.string (strB [48, 48, 49, 49, 48]), .int .i64 0] ∧ Ext w0 w' := by
  have h := Code_c 5 w0
  rw [kn_code] at h
  exact h
theorem knDec_c (w0 : World) : CallsV Tryz.prog 26 [.string (strB [48, 48, 49, 49, 48, 49])] w0 fun v w' => v = .tuple #[.int .i64 5, .int .i64 5, .int .i64 0] ∧ Ext w0 w' := by
  have h := Decode_c [48, 48, 49, 49, 48, 49] w0 (by decide)
  rw [kn_dec] at h
  exact h
theorem knLog_c (b : Nat) (w0 : World) (hB : Blk w0 b 43 [.int .i64 2, .int .i64 1, .int .i64 1, .int .i64 3, .int .i64 0, .int .i64 0]) : CallsV Tryz.prog 15 [.slice (some ⟨b, 0, none⟩) 1 1] w0 fun v w' => (∃ a9 g9 c9, v = .tuple #[.slice a9 64 c9, .int .i64 0] ∧ Acc encY 1 5 w0.heap.size w' a9 g9 c9 (logP knE1)) ∧ Ext w0 w' := by
  have h := WriteLog_c knE1 (some ⟨b, 0, none⟩) b 0 1 w0 (Sl.ofBlk (enc := encEnt) (k := 6) (xs := knE1) (fun _ => rfl) hB) (by decide) (by have := hB.lt; omega)
  rw [kn_log1, kn_log2.1] at h
  exact h
theorem knRep_c (b : Nat) (w0 : World) (hB : Blk w0 b 43 (knE4.flatMap encEnt)) : CallsV Tryz.prog 20 [.agg #[.int .i64 0, .slice none 0 0, .slice none 0 0, .slice none 0 0, .int .i64 0], .slice (some ⟨b, 0, none⟩) 4 4] w0 fun v w' => (∃ m a c l1 a1 c1 l2 a2 c2, v = .tuple #[.agg #[.int .i64 m, .slice a 1 c, .slice a1 l1 c1, .slice a2 l2 c2, .int .i64 1000], .int .i64 0, .int .i64 0]) ∧ Ext w0 w' := by
  have hz : SeaOk 0 SG0.st := ⟨asc_nil, fun h hh => (by cases hh), CgOk.nil _, CgOk.nil _, by decide, by decide, by decide⟩
  have hp : 0 < w0.heap.size := by have := hB.lt; omega
  refine CallsV.mono (Replay_c knE4 (some ⟨b, 0, none⟩) b 0 4 SG0 0 0 0 0 w0 (Sl.ofBlk (enc := encEnt) (k := 6) (xs := knE4) (fun _ => rfl) hB) (by decide) hp (SIn.zero hp) hz (by decide)) ?_
  rintro v w' ⟨⟨V9, rfl, hI, hst, _⟩, u⟩
  have hr : repP SG0.st knE4 = (0, 0, ⟨0, 1000, [⟨1, 30, [⟨5, 30⟩]⟩], [⟨5, 50⟩], [⟨5, 20⟩]⟩) := kn_rep
  rw [hr] at hst ⊢
  have h1 : V9.wk = 1000 := congrArg Sea.wk hst
  have h2 : V9.rs.length = 1 := by
    have h3 := congrArg (fun s : Sea => s.hs.length) hst
    have h3 : (V9.rs.map HR.hul).length = 1 := h3
    rwa [List.length_map] at h3
  exact ⟨⟨V9.m, V9.ah, V9.ch, _, V9.al, V9.cl, _, V9.au, V9.cu, by unfold SG.cells; rw [h1, h2]; rfl⟩, u⟩
theorem knBills_c (b b2 : Nat) (w0 : World) (hT : Tab10 w0) (hB2 : Blk w0 b2 3 [.int .i64 3, .int .i64 77]) (hB : Blk w0 b 71 [.int .i64 5, .int .i64 9, .int .i64 1200, .int .i64 10, .int .i64 250, .slice (some ⟨b2, 0, none⟩) 2 2]) : CallsV Tryz.prog 38 [.slice (some ⟨b, 0, none⟩) 1 1] w0 fun v w' => v = .tuple #[.string (strB knT), .int .i64 0] ∧ Ext w0 w' := by
  have h := WriteBills_c [knB b2] (some ⟨b, 0, none⟩) b 0 1 w0 (Sl.ofBlk (enc := encBil) (k := 6) (xs := [knB b2]) (fun _ => rfl) hB) (fun x hx => by rw [List.mem_singleton.1 hx]; exact ⟨SlI.own (xs := [3, 77]) hB2, by show 2 ≤ 17592186044416; decide⟩) (by simp) hT (by have := hB.lt; omega)
  rw [kn_txt] at h
  exact h
set_option maxHeartbeats 4000000 in
theorem known_c  (w0 : World) (hT : Tab10 w0) (_hpos : 0 < w0.heap.size) :
    CallsV Tryz.prog 13 [] w0 (fun v w' => v = .bool true ∧ Ext w0 w') := by
 have hl64 : (logP knE1).length = 64 := kn_log2.1
 have ht24 : knT.length = 24 := rfl
 refine f_n func13 ?_
 refine go ?_
 refine x_c func24 rfl rfl (knCode_c _) ?_
 rintro _ w4 ⟨rfl, u5⟩ zu5
 refine go ?_
 refine x_c func26 rfl rfl (knDec_c _) ?_
 rintro _ w10 ⟨rfl, u11⟩ zu11
 refine go ?_
 refine x_l fun bk15 w16 ebk15 sbk15 B17 u18 => ?_
 refine x_c func15 rfl rfl (knLog_c bk15 _ B17) ?_
 rintro _ w21 ⟨⟨a9, g9, c9, rfl, hF9⟩, u22⟩ zu22
 have lt_g9 := hF9.lt
 refine go ?_
 refine x_l fun bk26 w27 ebk26 sbk26 B28 u29 => ?_
 refine x_c func20 rfl rfl (knRep_c bk26 _ B28) ?_
 rintro _ w32 ⟨⟨m9, ah9, ch9, l19, al9, cl9, l29, au9, cu9, rfl⟩, u33⟩ zu33
 refine go ?_
 refine x_n fun bk36 w37 ebk36 sbk36 B38 u39 => ?_
 refine x_s fun w41 sw41 B43 u42 => ?_
 refine go ?_
 refine x_l fun bk46 w47 ebk46 sbk46 B48 u49 => ?_
 refine go ?_
 refine x_l fun bk51 w52 ebk51 sbk51 B53 u54 => ?_
 have B56 := (B48.kx u54)
 refine x_c func38 rfl rfl (knBills_c bk51 bk46 _ (hT.ext (((((((((((Upd.refl (fun _ => False) w0).nx u5).nx u11).nx u18).nx u22).nx u29).nx u33).nx u39).next u42 (fun i hi h => by omega)).nx u49).nx u54)) B56 B53) ?_
 rintro _ w58 ⟨rfl, u59⟩ zu59
 refine go ?_
 refine t_lenS underlying9 rfl rfl rfl rfl (t_same 77 (v := .int .i64 24) rfl rfl ?_)
 refine go ?_
 refine t_bo (Bo.eqS ([48, 48, 49, 49, 48]) ([48, 48, 49, 49, 48])) rfl rfl rfl rfl (t_same 81 (v := .bool true) rfl (congrArg Value.bool (decide_eq_true rfl)) ?_)
 refine go ?_
 have D65 := (((((((hF9.keep u29 (fun _ h => h)).keep u33 (fun _ h => h)).keep u39 (fun _ h => h)).keep u42 (fun hb => show ¬ (g9 = bk36) by first | omega | assumption)).keep u49 (fun _ h => h)).keep u54 (fun _ h => h)).keep u59 (fun _ h => h))
 refine g_i 0 (D65.sl (fun _ => rfl)) (fun _ => ?_)
 refine st1 ?_
 refine t_same 93 (v := .int .u8 142) rfl (by rw [kn_log2.2.1]; rfl) ?_
 refine go ?_
 refine g_i 1 (D65.sl (fun _ => rfl)) (fun _ => ?_)
 refine st1 ?_
 refine t_same 99 (v := .int .u8 64) rfl (by rw [kn_log2.2.2.1]; rfl) ?_
 refine go ?_
 refine g_i 30 (D65.sl (fun _ => rfl)) (fun _ => ?_)
 refine st1 ?_
 refine t_same 105 (v := .int .u8 1) rfl (by rw [kn_log2.2.2.2.1]; rfl) ?_
 refine go ?_
 refine g_i 31 (D65.sl (fun _ => rfl)) (fun _ => ?_)
 refine st1 ?_
 refine t_same 111 (v := .int .u8 14) rfl (by rw [kn_log2.2.2.2.2.1]; rfl) ?_
 refine go ?_
 refine g_i 62 (D65.sl (fun _ => rfl)) (fun _ => ?_)
 refine st1 ?_
 refine t_same 117 (v := .int .u8 4) rfl (by rw [kn_log2.2.2.2.2.2.1]; rfl) ?_
 refine go ?_
 refine g_i 63 (D65.sl (fun _ => rfl)) (fun _ => ?_)
 refine st1 ?_
 refine t_same 123 (v := .int .u8 223) rfl (by rw [kn_log2.2.2.2.2.2.2]; rfl) ?_
 refine go ?_
 refine t_subS 0 21 underlying9 rfl rfl rfl (.inr ⟨rfl, rfl⟩) (k := .i64) (m := 0) (x1 := .tmp 0) (.inl ⟨rfl, rfl, by first | rfl | omega⟩) (by omega) (by omega) (t_bo (Bo.eqS (((knT).drop 0).take (21 - 0)) ([53, 32, 57, 32, 49, 50, 48, 48, 32, 49, 48, 62, 50, 53, 48, 32, 51, 44, 55, 55, 32])) rfl rfl rfl rfl (t_same 134 (v := .bool true) rfl (congrArg Value.bool (decide_eq_true (by kernel_rfl))) ?_))
 refine go ?_
 refine f_1 results13 ?_
 exact ⟨rfl, u_d⟩

end Go.Proofs.YtjdcpnaocjddoaaGreatDoor
namespace Go.Proofs.YtjdcpnaocjddoaaGreatDoor
open Go Go.RowKit
/-- How keys and values of a map are laid. -/
structure Cod (α β : Type) where
  k : α → Value
  v : β → Value
def kvG {α β : Type} (c : Cod α β) (p : α × β) : Value × Value := (c.k p.1, c.v p.2)
/-- In block r lies a map with these keys and values. -/
def MapG {α β : Type} (cd : Cod α β) (m : List (α × β)) (w : World) (r : Nat) : Prop := ∃ es c, w.heap[r]? = some (.map es c) ∧ es.toList.map (fun e => (e.key, e.val)) = m.map (kvG cd) ∧ (∀ e ∈ es.toList, e.born < c) ∧ (es.toList.map (·.born)).Nodup
section
variable {α β : Type} {cd : Cod α β}
theorem MapG.lt {m : List (α × β)} {w : World} {r : Nat} (h : MapG cd m w r) : r < w.heap.size := by obtain ⟨es, c, h, _⟩ := h; exact lt_of_block h
theorem MapG.keep {m : List (α × β)} {w w' : World} {r : Nat} {S : Nat → Prop} (h : MapG cd m w r) (u : Upd S w w') (hn : ¬ S r) : MapG cd m w' r := by
  obtain ⟨es, c, h1, h2⟩ := h
  exact ⟨es, c, (u.block r (lt_of_block h1) hn).trans h1, h2⟩
theorem MapG.ne {m : List (α × β)} {w : World} {r b : Nat} {c : Array Value} {t : TypeId} {f : Nat × Nat} (h : MapG cd m w r) (hb : w.heap[b]? = some (.cells c t f)) : r ≠ b := fun e => by
  obtain ⟨es, c, h1, _⟩ := h
  subst e; rw [h1] at hb; cases hb
theorem MapG.ofMemo {w : World} {r : Nat} (h : ∀ F, Memo F w r) : MapG cd [] w r := by
  obtain ⟨es, c, h1, h2⟩ := h (fun _ _ _ => False)
  have he : es.toList = [] := by
    cases he : es.toList with
    | nil => rfl
    | cons e l => obtain ⟨_, _, _, hf⟩ := h2 e (by rw [he]; simp); exact hf.elim
  exact ⟨es, c, h1, by rw [he]; rfl, by rw [he]; simp, by rw [he]; simp⟩
end
/-- Where a key stands, and its value. -/
def fG {α β : Type} [DecidableEq α] : List (α × β) → α → Nat → Option (Nat × β)
  | [], _, _ => none
  | p :: m, a, i => if a = p.1 then some (i, p.2) else fG m a (i + 1)
def gtG {α β : Type} [DecidableEq α] (m : List (α × β)) (a : α) : Option β := (fG m a 0).map (·.2)
def upG {α β : Type} [DecidableEq α] (m : List (α × β)) (a : α) (v : β) : List (α × β) := match fG m a 0 with
  | none => m ++ [(a, v)]
  | some p => m.set p.1 (a, v)
/-- What the key's type must know: whether two keys are one. -/
structure KeyOK (P : Program) (K : TypeId) {α β : Type} [DecidableEq α] (cd : Cod α β) : Prop where
  find : ∀ (m : List (α × β)) (es : List MapEntry) (a : α) (w : World), es.map (fun e => (e.key, e.val)) = m.map (kvG cd) → (Instr.findKey K (cd.k a) es).run P w = .ok ((fG m a 0).map fun p => (p.1, cd.v p.2)) w
  check : ∀ (em : Bool) (a : α) (w : World), (Instr.checkKey em 10000 K (cd.k a)).run P w = .ok () w
  stays : ∀ (a : α) (w : World), (Instr.keyThatStays (cd.k a) (cd.k a)).run P w = .ok (cd.k a) w
section
variable {α β : Type} [DecidableEq α] {cd : Cod α β}
end
section
variable {P : Program} {α β : Type} [DecidableEq α]
theorem findNowG {v : β → Value} {a : Int} : ∀ (m : List (Int × β)) (es : List MapEntry) (i : Nat), es.map (fun e => (e.key, e.val)) = m.map (kvG ⟨.int .i64, v⟩) → Instr.findNow (.int .i64) (.int .i64 a) es i = some ((fG m a i).map fun p => (p.1, v p.2))
  | [], [], i, _ => rfl
  | [], _ :: _, _, h => by simp at h
  | _ :: _, [], _, h => by simp at h
  | p :: m, e :: es, i, h => by
    simp only [List.map_cons, List.cons.injEq, kvG, Prod.mk.injEq] at h
    obtain ⟨⟨hk, hv⟩, h⟩ := h
    have ih := findNowG (a := a) m es (i + 1) h
    by_cases q : a = p.1
    · simp [Instr.findNow, hk, hv, Instr.sameNow, fG, q]
    · have hs : Instr.sameNow (.int .i64) (.int .i64 a) e.key = some false := by rw [hk]; simp [Instr.sameNow, q]
      rw [Instr.findNow, hs]
      simp only [fG, if_neg q]
      exact ih
theorem checkKeyN {K : TypeId} (hK : P.underlying K = some (.int .i64)) (em : Bool) (n : Nat) (a : Int) (w : World) : (Instr.checkKey em (n + 1) K (.int .i64 a)).run P w = .ok () w := by
  simp [Instr.checkKey, run_underlying hK]
theorem KeyOK.int {K : TypeId} (hK : P.underlying K = some (.int .i64)) (v : β → Value) : KeyOK P K (⟨.int .i64, v⟩ : Cod Int β) :=
  ⟨fun m es a w h => by simp [Instr.findKey, run_underlying hK, findNowG m es 0 h], fun em a w => checkKeyN hK em 9999 a w, fun a w => by simp [Instr.keyThatStays, Instr.sameBits]⟩
end
section steps
variable {rd : Option Nat} {P : Program} {ops : Array Oper} {Q : Exit → Act → World → Prop} {N : Nat} {ds : List Deferred} {rest : List Oper} {L : Slots} {w : World}
variable {α β : Type} [DecidableEq α] {cd : Cod α β}
variable {d : Nat} {ty : TypeId} {pos : String} {aft : Array Edge} {g : Option (Nat × Bool)}
end steps
section steps2
variable {rd : Option Nat} {P : Program} {ops : Array Oper} {Q : Exit → Act → World → Prop} {N : Nat} {ds : List Deferred} {rest : List Oper} {L : Slots} {w : World}
variable {α β : Type} {cd : Cod α β}
variable {d : Nat} {ty : TypeId} {pos : String} {aft : Array Edge} {g : Option (Nat × Bool)}
/-- A range over the map in block r is under way, its iterator lies in block it; these entries are to come. -/
def ItG {α β : Type} (cd : Cod α β) (m left : List (α × β)) (w : World) (r it : Nat) : Prop := ∃ es c since seen c0, w.heap[r]? = some (.map es c) ∧ es.toList.map (fun e => (e.key, e.val)) = m.map (kvG cd) ∧ (es.toList.map (·.born)).Nodup ∧ w.heap[it]? = some (.mapIter (some r) since seen c0) ∧ (∀ e ∈ es.toList, e.born < since) ∧ since ≤ c0 ∧ since ≤ c ∧ (leftOf es seen).toList.map (fun e => (e.key, e.val)) = left.map (kvG cd)
theorem ItG.keep {m left : List (α × β)} {w w' : World} {r it : Nat} {S : Nat → Prop} (h : ItG cd m left w r it) (u : Upd S w w') (h1 : ¬ S r) (h2 : ¬ S it) : ItG cd m left w' r it := by
  obtain ⟨es, c, since, seen, c0, q1, q2, q3, q4, q5⟩ := h
  exact ⟨es, c, since, seen, c0, (u.block r (lt_of_block q1) h1).trans q1, q2, q3, (u.block it (lt_of_block q4) h2).trans q4, q5⟩
theorem ItG.same {m left : List (α × β)} {w w' : World} {r it : Nat} (h : ItG cd m left w r it) (h1 : w'.heap[r]? = w.heap[r]?) (h2 : w'.heap[it]? = w.heap[it]?) : ItG cd m left w' r it := by
  obtain ⟨es, c, since, seen, c0, q1, q2, q3, q4, q5⟩ := h
  exact ⟨es, c, since, seen, c0, h1.trans q1, q2, q3, h2.trans q4, q5⟩
theorem ItG.map {m left : List (α × β)} {w : World} {r it : Nat} (h : ItG cd m left w r it) : ∃ a b, w.heap[r]? = some (.map a b) := by obtain ⟨es, c, since, seen, c0, q1, q2, q3, q4, q5⟩ := h; exact ⟨_, _, q1⟩
end steps2
end Go.Proofs.YtjdcpnaocjddoaaGreatDoor
namespace Go.Proofs.YtjdcpnaocjddoaaGreatDoor
open Go Go.RowKit Go.Proofs.Tryz
/-! ### a season: the map of tons, and sums -/
section
variable {α β : Type} [DecidableEq α]
def upR (a : α) (v : β) : List (α × β) → List (α × β)
  | [] => [(a, v)]
  | p :: m => if a = p.1 then (a, v) :: m else p :: upR a v m
def gtR (a : α) : List (α × β) → Option β
  | [] => none
  | p :: m => if a = p.1 then some p.2 else gtR a m
theorem fG_shift (a : α) : ∀ (m : List (α × β)) (i : Nat), fG m a (i + 1) = (fG m a i).map fun p => (p.1 + 1, p.2)
  | [], _ => rfl
  | p :: m, i => by
    unfold fG
    split
    · rfl
    · exact fG_shift a m (i + 1)
theorem gtG_eq (a : α) : ∀ (m : List (α × β)), gtG m a = gtR a m
  | [] => rfl
  | p :: m => by
    unfold gtG fG gtR
    split
    · rfl
    · rw [fG_shift, ← gtG_eq a m]
      unfold gtG
      cases fG m a 0 <;> rfl
theorem upG_eq (a : α) (v : β) : ∀ (m : List (α × β)), upG m a v = upR a v m
  | [] => rfl
  | p :: m => by
    have ih := upG_eq a v m
    unfold upG fG upR
    by_cases q : a = p.1
    · simp [q]
    · simp only [if_neg q]
      rw [fG_shift, ← ih]
      unfold upG
      cases fG m a 0 <;> rfl
theorem gtR_upR (a : α) (v : β) (b : α) : ∀ (m : List (α × β)), gtR b (upR a v m) = if b = a then some v else gtR b m
  | [] => by
    unfold upR gtR
    split <;> rfl
  | p :: m => by
    unfold upR
    split
    · rename_i e
      unfold gtR
      by_cases q : b = a
      · simp [q]
      · rw [if_neg q, if_neg q, if_neg (by rw [← e]; exact q)]
    · rename_i e
      rw [gtR, gtR_upR a v b m]
      by_cases q : b = a
      · subst q; rw [if_neg e, if_pos rfl, if_pos rfl]
      · rw [if_neg q, if_neg q, ← gtR]
end
def gI (m : List (Int × Int)) (b : Int) : Int := (gtG m b).getD 0
theorem gI_up (m : List (Int × Int)) (a v b : Int) : gI (upG m a v) b = if b = a then v else gI m b := by
  unfold gI
  rw [gtG_eq, gtG_eq, upG_eq, gtR_upR]
  split <;> rfl
section
variable {rd : Option Nat} {P : Program} {ops : Array Oper} {Q : Exit → Act → World → Prop} {N : Nat} {ds : List Deferred} {rest : List Oper} {L : Slots} {w : World}
variable {d : Nat} {ty : TypeId} {pos : String} {aft : Array Edge} {g : Option (Nat × Bool)}
end
theorem tonP_le {b : Int} : ∀ {c : List Crg}, (∀ x ∈ c, 0 ≤ x.t) → 0 ≤ tonP b c ∧ tonP b c ≤ tonP 0 c
  | [], _ => by simp [tonP]
  | x :: c, h => by
    have h1 := tonP_le (b := b) (c := c) (fun y hy => h y (List.mem_cons_of_mem _ hy))
    have h2 := h x List.mem_cons_self
    simp only [tonP, true_or, if_true]
    split <;> omega
theorem tonP_next {b : Int} {c : List Crg} {k : Nat} (hk : k < c.length) : tonP b (c.take (k + 1)) = tonP b (c.take k) + (if b = 0 ∨ (nth c k).b = b then (nth c k).t else 0) := by
  rw [take_nth hk, tonP_snoc]
def allR (b : Int) (rs : List HR) : Int := allT b (rs.map HR.hul)
theorem allT_range {b : Int} : ∀ {l : List Hul}, (∀ h ∈ l, (∀ x ∈ h.c, 0 ≤ x.t) ∧ tonP 0 h.c ≤ 100000) → 0 ≤ allT b l ∧ allT b l ≤ 100000 * (l.length : Int)
  | [], _ => by simp [allT]
  | h :: l, hh => by
    have h1 := allT_range (b := b) (l := l) (fun y hy => hh y (List.mem_cons_of_mem _ hy))
    have h2 := hh h List.mem_cons_self
    have h3 := tonP_le (b := b) h2.1
    simp only [allT, List.length_cons]; omega
/-- The tons in a map. -/
def MapT (m : List (Int × Int)) (F : Int → Int) : Prop := ∀ b, b ≠ 0 → gI m b = F b
theorem MapT.up {m : List (Int × Int)} {F G : Int → Int} {a v : Int} (h : MapT m F) (ha : v = G a) (hG : ∀ b, b ≠ 0 → b ≠ a → G b = F b) : MapT (upG m a v) G := fun b hb => by
  rw [gI_up]
  by_cases q : b = a
  · rw [if_pos q, q, ha]
  · rw [if_neg q, h b hb, hG b hb q]
theorem MapT.cg {m : List (Int × Int)} {A : Int → Int} {c : List Crg} {k : Nat} (h : MapT m (fun b => A b + tonP b (c.take k))) (hk : k < c.length) (hb : (nth c k).b ≠ 0) : MapT (upG m (nth c k).b (gI m (nth c k).b + (nth c k).t)) (fun b => A b + tonP b (c.take (k + 1))) := by
  refine h.up ?_ (fun b hb0 hn => ?_)
  · show _ = A _ + _
    rw [h _ hb, tonP_next hk, if_pos (.inr rfl)]
    show A _ + _ + _ = _
    omega
  · show A _ + _ = A _ + _
    rw [tonP_next hk, if_neg (fun q => q.elim hb0 (fun q => hn q.symm))]; omega
theorem CgOk.pos {T : Int} {c : List Crg} (h : CgOk T c) : ∀ x ∈ c, 0 ≤ x.t := fun x hx => by have := h.2 x hx; omega
theorem CgOk.at_ {T : Int} {c : List Crg} {k : Nat} (h : CgOk T c) (hk : k < c.length) : (1 ≤ (nth c k).b ∧ (nth c k).b ≤ 9999) ∧ (1 ≤ (nth c k).t ∧ (nth c k).t ≤ T) := h.2 _ (nth_mem hk)
theorem CgOk.sum {T : Int} {c : List Crg} (h : CgOk T c) (hT : 0 ≤ T ∧ T ≤ 1000000000) (b : Int) : 0 ≤ tonP b c ∧ tonP b c ≤ 10000000000000 := by
  suffices ∀ l : List Crg, (∀ x ∈ l, 0 ≤ x.t ∧ x.t ≤ 1000000000) → 0 ≤ tonP b l ∧ tonP b l ≤ 1000000000 * (l.length : Int) by
    have h1 := this c (fun x hx => by have := h.2 x hx; omega)
    have h2 := h.len
    omega
  intro l
  induction l with
  | nil => intro _; simp [tonP]
  | cons x l ih =>
    intro hl
    have h1 := ih (fun y hy => hl y (List.mem_cons_of_mem _ hy))
    have h2 := hl x List.mem_cons_self
    simp only [tonP, List.length_cons]
    split <;> omega
theorem SeaOk.hulls {T : Int} {V : SG} (h : SeaOk T V.st) (b : Int) (i : Nat) : 0 ≤ allR b (V.rs.take i) ∧ allR b (V.rs.take i) ≤ 100000 * (V.rs.length : Int) := by
  have h1 : ∀ y ∈ (V.rs.take i).map HR.hul, (∀ x ∈ y.c, 0 ≤ x.t) ∧ tonP 0 y.c ≤ 100000 := fun y hy => by
    obtain ⟨r, hr, rfl⟩ := List.mem_map.1 hy
    have h2 := h.hul (HR.hul r) (List.mem_map.2 ⟨r, List.mem_of_mem_take hr, rfl⟩)
    exact ⟨h2.2.2.1.pos, h2.2.2.2⟩
  have h3 := allT_range (b := b) h1
  unfold allR
  rw [List.length_map, List.length_take] at h3
  omega
/-! ### a season: replays, one by one and all together -/
/-- A list with one entry that lies in a block of its own. -/
theorem Sl.one {x : Ent} {w : World} {b : Nat} (h : Blk w b 43 [.int .i64 x.m, .int .i64 x.k, .int .i64 x.h, .int .i64 x.p, .int .i64 x.b, .int .i64 x.t]) : Sl encEnt 6 w (some ⟨b, 0, none⟩) b 0 [x] := Sl.ofBlk (enc := encEnt) (k := 6) (xs := [x]) (fun _ => rfl) h
theorem SeaOk.parts {T : Int} {V : SG} (h : SeaOk T V.st) : V.rs.length ≤ 999 ∧ V.ld.length ≤ 9999 ∧ V.un.length ≤ 9999 ∧ ∀ r ∈ V.rs, r.c.length ≤ 9999 := ⟨h.rlen, h.ld.len, h.un.len, fun r hr => (h.rhul r hr).2.2.1.len⟩
theorem Bal.at_ {V : SG} (h : Bal V.st) (b : Int) : allR b V.rs + tonP b V.un = tonP b V.ld := h b
theorem entries_c (l : List Ent) (al : Option Addr) (bl ol cl : Nat) (w0 : World) (hl : Sl encEnt 6 w0 al bl ol l) (hll : l.length ≤ 1000000) (hpos : 0 < w0.heap.size) :
    CallsV Tryz.prog 14 [.slice al l.length cl] w0 (fun v w' => (∃ ao g cp, v = .slice ao (List.length l) cp ∧ Acc encEnt 6 43 w0.heap.size w' ao g cp l) ∧ Ext w0 w') := by
 refine f_n func14 ?_
 refine go ?_
 refine x_l fun bk3 w4 ebk3 sbk3 B5 u6 => ?_
 refine go ?_
 refine t_copy (enc := encEnt) (z := .agg #[.int .i64 0, .int .i64 0, .int .i64 0, .int .i64 0, .int .i64 0, .int .i64 0]) (bytes := 48) (k := 6) (ys := l) underlying22 (by kernel_rfl) rfl (by decide) (fun _ => rfl) (by intro x; simp [encEnt, Value.oneCell']) rfl rfl rfl rfl B5 (hl.keep ((Upd.refl (fun _ => False) w0).nx u6) (fun _ h => h)) (by omega) (by decide) (fun ao8 gb9 cp10 w11 A12 u13 gegb9 => ?_)
 have zu13 := u13.size
 have lt_gb9 := A12.lt
 refine go ?_
 refine f_1 results14 ?_
 obtain ⟨gz, hz⟩ := Acc.lower (base' := w0.heap.size) A12 (by omega) hpos
 exact ⟨⟨_, gz, _, rfl, hz⟩, u_d⟩

end Go.Proofs.YtjdcpnaocjddoaaGreatDoor
namespace Go.Proofs.YtjdcpnaocjddoaaGreatDoor
open Go Go.RowKit Go.Proofs.Tryz
end Go.Proofs.YtjdcpnaocjddoaaGreatDoor
namespace Go.Proofs.YtjdcpnaocjddoaaGreatDoor
open Go Go.RowKit Go.Proofs.Tryz
end Go.Proofs.YtjdcpnaocjddoaaGreatDoor
namespace Go.Proofs.YtjdcpnaocjddoaaGreatDoor
open Go Go.RowKit
/-! ### a log's closed form: chunks of 240 digits, blocks out of them, groups of four blocks and their parity -/
def nextG (s : List Bk × Bk) (d : Bk) : List Bk × Bk :=
  if (s.1.length + 1) % 5 = 4 then (s.1 ++ [d.shutB s.1.length] ++ [(s.2.mix d).shutB (s.1.length + 1)], zeroBk) else (s.1 ++ [d.shutB s.1.length], s.2.mix d)
def endG (s : List Bk × Bk) : List Bk := if s.1.length % 5 ≠ 0 then s.1 ++ [s.2.shutB s.1.length] else s.1
def putBits (d : Bk) (n : Nat) : List UInt8 → Bk
  | [] => d
  | c :: r => putBits (putBit d n c) (n + 1) r
def blkOf (c : List UInt8) : Bk := putBits zeroBk 0 c
def chunkN : Nat → List UInt8 → List (List UInt8)
  | 0, t => [t]
  | n + 1, t => if t.length ≤ 240 then [t] else t.take 240 :: chunkN n (t.drop 240)
/-- digits in chunks of 240 -/
def chunk (t : List UInt8) : List (List UInt8) := chunkN t.length t
theorem chunkN_eq : ∀ (n : Nat) (t : List UInt8), t.length ≤ n → chunkN n t = if t.length ≤ 240 then [t] else t.take 240 :: chunk (t.drop 240) := by
  have key : ∀ (n m : Nat) (t : List UInt8), t.length ≤ n → t.length ≤ m → chunkN n t = chunkN m t := by
    intro n
    induction n with
    | zero =>
      intro m t h _
      cases m with
      | zero => rfl
      | succ m => show [t] = _; unfold chunkN; rw [if_pos (by omega)]
    | succ n ih =>
      intro m t h1 h2
      cases m with
      | zero => conv => lhs; unfold chunkN
                rw [if_pos (by omega)]; rfl
      | succ m =>
        conv => lhs; unfold chunkN
        conv => rhs; unfold chunkN
        split
        · rfl
        · rw [ih m (t.drop 240) (by rw [List.length_drop]; omega) (by rw [List.length_drop]; omega)]
  intro n t h
  rw [key n (t.length + 1) t h (by omega)]
  conv => lhs; unfold chunkN
  split
  · rfl
  · rw [key t.length (t.drop 240).length (t.drop 240) (by rw [List.length_drop]; omega) (Nat.le_refl _)]; rfl
theorem chunk_eq (t : List UInt8) : chunk t = if t.length ≤ 240 then [t] else t.take 240 :: chunk (t.drop 240) := chunkN_eq t.length t (Nat.le_refl _)
theorem nextF_eq (s : Fs) : nextF s = ⟨(nextG (s.v, s.p) s.d).1, (nextG (s.v, s.p) s.d).2, zeroBk, 0⟩ := by
  unfold nextF nextG
  split <;> rfl
theorem stepF_lt {s : Fs} (h : s.n ≠ 240) (c : UInt8) : stepF s c = ⟨s.v, s.p, putBit s.d s.n c, s.n + 1⟩ := by
  unfold stepF fullF; rw [if_neg h]
theorem fold_step : ∀ (t : List UInt8) (s : Fs), s.n + t.length ≤ 240 → t.foldl stepF s = ⟨s.v, s.p, putBits s.d s.n t, s.n + t.length⟩
  | [], s, _ => rfl
  | c :: r, s, h => by
    have h : s.n + (r.length + 1) ≤ 240 := h
    rw [List.foldl_cons, stepF_lt (by omega), fold_step r _ (by show s.n + 1 + r.length ≤ 240; omega)]
    show (⟨s.v, s.p, putBits (putBit s.d s.n c) (s.n + 1) r, s.n + 1 + r.length⟩ : Fs) = ⟨s.v, s.p, putBits s.d s.n (c :: r), s.n + (c :: r).length⟩
    congr 1
    rw [List.length_cons]; omega
theorem fill_chunks : ∀ (n : Nat) (t : List UInt8) (s : Fs), t.length ≤ n → s.d = zeroBk → s.n = 0 → nextF (t.foldl stepF s) = ⟨(((chunk t).map blkOf).foldl nextG (s.v, s.p)).1, (((chunk t).map blkOf).foldl nextG (s.v, s.p)).2, zeroBk, 0⟩ := by
  intro n
  induction n with
  | zero =>
    intro t s h hd hn
    rw [fold_step t s (by omega), nextF_eq, chunk_eq, if_pos (by omega), hd, hn]; rfl
  | succ n ih =>
    intro t s h hd hn
    by_cases h2 : t.length ≤ 240
    · rw [fold_step t s (by omega), nextF_eq, chunk_eq, if_pos h2, hd, hn]; rfl
    · rw [chunk_eq, if_neg h2]
      have e : t = t.take 240 ++ t.drop 240 := (List.take_append_drop 240 t).symm
      have hl : (t.take 240).length = 240 := by rw [List.length_take]; omega
      obtain ⟨x, r, hx⟩ : ∃ x r, t.drop 240 = x :: r := by
        cases hq : t.drop 240 with
        | nil => have := congrArg List.length hq; rw [List.length_drop] at this; simp at this; omega
        | cons x r => exact ⟨x, r, rfl⟩
      have e1 : t.foldl stepF s = (t.drop 240).foldl stepF ((t.take 240).foldl stepF s) := by conv => lhs; rw [e, List.foldl_append]
      have e2 : (t.take 240).foldl stepF s = ⟨s.v, s.p, blkOf (t.take 240), 240⟩ := by rw [fold_step _ s (by omega), hd, hn, hl]; rfl
      have e3 : (t.drop 240).foldl stepF ⟨s.v, s.p, blkOf (t.take 240), 240⟩ = (t.drop 240).foldl stepF (nextF ⟨s.v, s.p, blkOf (t.take 240), 240⟩) := by
        rw [hx, List.foldl_cons, List.foldl_cons]
        congr 1
        unfold stepF
        have q1 : fullF ⟨s.v, s.p, blkOf (t.take 240), 240⟩ = nextF ⟨s.v, s.p, blkOf (t.take 240), 240⟩ := by unfold fullF; rw [if_pos rfl]
        have q2 : fullF (nextF ⟨s.v, s.p, blkOf (t.take 240), 240⟩) = nextF ⟨s.v, s.p, blkOf (t.take 240), 240⟩ := by rw [nextF_eq]; unfold fullF; rw [if_neg (by show (0 : Nat) ≠ 240; decide)]
        rw [q1, q2]
      rw [e1, e2, e3, ih (t.drop 240) _ (by rw [List.length_drop]; omega) (by rw [nextF_eq]) (by rw [nextF_eq]), nextF_eq]
      rfl
theorem fillP_eq (t : List UInt8) : fillP t = endG (((chunk t).map blkOf).foldl nextG ([], zeroBk)) := by
  unfold fillP fsP
  rw [fill_chunks t.length t ⟨[], zeroBk, zeroBk, 0⟩ (Nat.le_refl _) rfl rfl]
  rfl
/-! groups -/
def nextR (s : List Bk × Bk) (d : Bk) : List Bk × Bk := (s.1 ++ [d.shutB s.1.length], s.2.mix d)
theorem foldR_len : ∀ (ds : List Bk) (s : List Bk × Bk), (ds.foldl nextR s).1.length = s.1.length + ds.length
  | [], s => rfl
  | d :: ds, s => by rw [List.foldl_cons, foldR_len ds]; simp [nextR]; omega
def shutG (s : List Bk × Bk) : List Bk := s.1 ++ [s.2.shutB s.1.length]
theorem nextG_eq (s : List Bk × Bk) (d : Bk) : nextG s d = if (s.1.length + 1) % 5 = 4 then (shutG (nextR s d), zeroBk) else nextR s d := by
  unfold nextG shutG nextR
  split
  · simp
  · rfl
def grpN : Nat → List Bk → List Bk → List Bk
  | 0, v, _ => v
  | n + 1, v, ds => if ds.length = 0 then v else grpN n (shutG ((ds.take 4).foldl nextR (v, zeroBk))) (ds.drop 4)
theorem foldG_few : ∀ (ds : List Bk) (s : List Bk × Bk), s.1.length % 5 + ds.length ≤ 3 → ds.foldl nextG s = ds.foldl nextR s
  | [], _, _ => rfl
  | d :: ds, s, h => by
    have h : s.1.length % 5 + (ds.length + 1) ≤ 3 := h
    rw [List.foldl_cons, List.foldl_cons, nextG_eq, if_neg (by omega)]
    exact foldG_few ds _ (by simp only [nextR, List.length_append, List.length_cons, List.length_nil]; omega)
theorem grp_eq : ∀ (n : Nat) (ds v : List Bk), ds.length ≤ n → v.length % 5 = 0 → endG (ds.foldl nextG (v, zeroBk)) = grpN n v ds := by
  intro n
  induction n with
  | zero =>
    intro ds v h h5
    have : ds = [] := List.length_eq_zero_iff.1 (by omega)
    subst this
    show endG (v, zeroBk) = v
    unfold endG; rw [if_neg (by simpa using h5)]
  | succ n ih =>
    intro ds v h h5
    unfold grpN
    by_cases h0 : ds.length = 0
    · have : ds = [] := List.length_eq_zero_iff.1 h0
      subst this
      rw [if_pos h0]
      show endG (v, zeroBk) = v
      unfold endG; rw [if_neg (by simpa using h5)]
    · rw [if_neg h0]
      by_cases h4 : ds.length ≤ 3
      · rw [foldG_few ds (v, zeroBk) (by show v.length % 5 + ds.length ≤ 3; omega), List.take_of_length_le (by omega), List.drop_of_length_le (by omega)]
        have hl := foldR_len ds (v, zeroBk)
        have hl : (ds.foldl nextR (v, zeroBk)).1.length = v.length + ds.length := hl
        have e : ∀ w : List Bk, grpN n w [] = w := fun w => by cases n <;> simp [grpN]
        rw [e]
        unfold endG shutG
        rw [if_pos (by omega)]
      · have e : ds = ds.take 3 ++ nth ds 3 :: ds.drop 4 := by rw [← drop_nth (show 3 < ds.length by omega), List.take_append_drop]
        have e4 : ds.take 4 = ds.take 3 ++ [nth ds 3] := take_nth (show 3 < ds.length by omega)
        have hl3 : (ds.take 3).length = 3 := by rw [List.length_take]; omega
        have hl := foldR_len (ds.take 3) (v, zeroBk)
        have hl : ((ds.take 3).foldl nextR (v, zeroBk)).1.length = v.length + 3 := by rw [hl, hl3]
        have e1 : ds.foldl nextG (v, zeroBk) = (ds.drop 4).foldl nextG (shutG ((ds.take 4).foldl nextR (v, zeroBk)), zeroBk) := by
          conv => lhs; rw [e, List.foldl_append, List.foldl_cons, foldG_few (ds.take 3) (v, zeroBk) (by show v.length % 5 + (ds.take 3).length ≤ 3; omega), nextG_eq, if_pos (by omega)]
          rw [e4, List.foldl_append]; rfl
        rw [e1]
        refine ih (ds.drop 4) _ (by rw [List.length_drop]; omega) ?_
        unfold shutG
        rw [List.length_append, foldR_len, List.length_take]
        simp only [List.length_cons, List.length_nil]; omega
/-! digits of bytes -/
def digs (l : List UInt8) : List UInt8 := l.flatMap fun x => putP x.toNat 8
theorem digs_app (a b : List UInt8) : digs (a ++ b) = digs a ++ digs b := List.flatMap_append
theorem digs_cons (x : UInt8) (l : List UInt8) : digs (x :: l) = putP x.toNat 8 ++ digs l := rfl
theorem digs_len : ∀ l : List UInt8, (digs l).length = 8 * l.length
  | [] => rfl
  | x :: l => by rw [digs_cons, List.length_append, putP_length, digs_len l, List.length_cons]; omega
theorem nth_app_l {α : Type} [Inhabited α] {a b : List α} {i : Nat} (h : i < a.length) : nth (a ++ b) i = nth a i := by unfold nth; rw [List.getD_eq_getElem?_getD, List.getElem?_append_left h, List.getD_eq_getElem?_getD]
theorem nth_app_r {α : Type} [Inhabited α] {a b : List α} {i : Nat} (h : a.length ≤ i) : nth (a ++ b) i = nth b (i - a.length) := by unfold nth; rw [List.getD_eq_getElem?_getD, List.getElem?_append_right h, List.getD_eq_getElem?_getD]
theorem nth_rep {α : Type} [Inhabited α] {n i : Nat} {x : α} (h : i < n) : nth (List.replicate n x) i = x := by unfold nth; rw [List.getD_eq_getElem?_getD, List.getElem?_replicate, if_pos h]; rfl
theorem nth_takeL {α : Type} [Inhabited α] {a : List α} {i k : Nat} (h : i < k) : nth (a.take k) i = nth a i := by unfold nth; rw [List.getD_eq_getElem?_getD, List.getElem?_take, if_pos h, List.getD_eq_getElem?_getD]
theorem list_ext {α : Type} [Inhabited α] {a b : List α} (hl : a.length = b.length) (h : ∀ i, i < a.length → nth a i = nth b i) : a = b := by
  refine List.ext_getElem hl fun i h1 h2 => ?_
  rw [← nth_eq h1, ← nth_eq h2]; exact h i h1
/-! the bytes of all chunks -/
theorem blk30 (b : Bk) : (b.l.take 30).length = 30 := by rw [List.length_take, b.h]; rfl
/-! ### the reference's Data and Write -/
/-! the reference's Write: groups of up to four -/
theorem u8_ofN {n : Nat} (h : n < 256) : ((UInt8.ofNat n).toNat : Int) = (n : Int) := by
  rw [UInt8.toNat_ofNat']; omega
/-! the reference's Bits -/
theorem grpN_nil (n : Nat) (v : List Bk) : grpN n v [] = v := by cases n <;> simp [grpN]
theorem foldR_snoc {v ds : List Bk} {i : Nat} (hi : i < ds.length) : (ds.take (i + 1)).foldl nextR (v, zeroBk) = nextR ((ds.take i).foldl nextR (v, zeroBk)) (nth ds i) := by
  rw [take_nth hi, List.foldl_append]; rfl

end Go.Proofs.YtjdcpnaocjddoaaGreatDoor
namespace Go.Proofs.YtjdcpnaocjddoaaGreatDoor
open Go Go.RowKit Go.Proofs.Tryz
instance : DecidableEq Ent := fun a b => if h : a.m = b.m ∧ a.k = b.k ∧ a.h = b.h ∧ a.p = b.p ∧ a.b = b.b ∧ a.t = b.t then isTrue (by cases a; cases b; simp at h; simp [h]) else isFalse (fun e => h (by rw [e]; exact ⟨rfl, rfl, rfl, rfl, rfl, rfl⟩))

end Go.Proofs.YtjdcpnaocjddoaaGreatDoor
namespace Go.Proofs.YtjdcpnaocjddoaaGreatDoor
open Go Go.RowKit

theorem Ext.grownBy {w w' : World} (h : Ext w w') : w.grownBy w' none := ⟨h.os, h.tape, h.output, h.size, fun k hk _ => h.block k hk id⟩
theorem Upd.putObj (w : World) (l : Nat) (o : Obj) : Upd (· = l) w (w.putObj l o) := ⟨rfl, rfl, rfl, by simp, fun k _ hn => World.putObj_heap_other hn⟩

/-- What is said abides the turn of what is no cells, from B on. -/
theorem ownFrom_blk {β : Type} {B b : Nat} {t : TypeId} {f : β → List Value} : OwnFrom B (fun s w => Blk w b t (f s)) := fun s W W' row hs hg hr =>
  (hg.block b (Blk.lt hs) (fun e => by
    obtain ⟨_, o, ho, hc⟩ := hr b e.symm
    rw [show W.heap[b]? = _ from hs] at ho
    cases ho
    cases hc)).trans hs

theorem ownFrom_acc {β α : Type} {B : Nat} {enc : α → List Value} {k : Nat} {e : TypeId} {base : Nat} {ao : β → Option Addr} {g cap : β → Nat} {xs : β → List α} : OwnFrom B (fun s w => Acc enc k e base w (ao s) (g s) (cap s) (xs s)) := fun s W W' row hs hg hr => by
  refine ⟨Nat.lt_of_lt_of_le hs.lt hg.size, ?_⟩
  rcases hs.at_ with h1 | ⟨h1, h2, cur, h3, h4⟩
  · exact .inl h1
  · refine .inr ⟨h1, h2, cur, (hg.block _ hs.lt (fun e' => ?_)).trans h3, h4⟩
    obtain ⟨_, o, ho, hc⟩ := hr _ e'.symm
    rw [h3] at ho
    cases ho
    cases hc

theorem ownFrom_ex {β γ : Type} {B : Nat} {I : γ → β → World → Prop} (h : ∀ c, OwnFrom B (I c)) : OwnFrom B (fun s w => ∃ c, I c s w) := fun s W W' row hs hg hr => by
  obtain ⟨c, hc⟩ := hs
  exact ⟨c, h c s W W' row hc hg hr⟩

theorem ownFrom_upd {β : Type} {B : Nat} {S : Nat → Prop} {w0 : World} (hB : w0.heap.size ≤ B) : OwnFrom B (fun (_ : β) w => Upd S w0 w) := fun _ W W' row hs hg hr =>
  ⟨hg.os.trans hs.os, hg.tape.trans hs.tape, hg.output.trans hs.output, Nat.le_trans hs.size hg.size, fun k hk hn =>
    (hg.block k (Nat.lt_of_lt_of_le hk hs.size) (fun e => by have := (hr k e.symm).1; omega)).trans (hs.block k hk hn)⟩

/-- What may turn is cells. -/
def CellsIn (S : Nat → Prop) (w : World) : Prop := ∀ k, k < w.heap.size → S k → ∃ cur t f, w.heap[k]? = some (.cells cur t f)

theorem CellsIn.none (w : World) : CellsIn (fun _ => False) w := fun _ _ h => h.elim
theorem Blk.cellsIn {w : World} {b : Nat} {t : TypeId} {cs : List Value} (h : Blk w b t cs) : CellsIn (· = b) w := fun k _ e => by subst e; exact ⟨_, _, _, h⟩
theorem Acc.cellsIn {α : Type} {enc : α → List Value} {k : Nat} {e : TypeId} {base : Nat} {w : World} {ao : Option Addr} {g cap : Nat} {xs : List α} (h : Acc enc k e base w ao g cap xs) : CellsIn (fun i => i = g ∧ base ≤ i) w := fun i _ hi => by
  rcases h.at_ with ⟨_, _, _, h1⟩ | ⟨_, _, cur, h1, _⟩
  · omega
  · rw [hi.1]; exact ⟨_, _, _, h1⟩
theorem CellsIn.or {S T : Nat → Prop} {w : World} (h : CellsIn S w) (k : CellsIn T w) : CellsIn (fun i => S i ∨ T i) w := fun i hi h' => h'.elim (h i hi) (k i hi)

theorem KeepsFrom.of_upd {S : Nat → Prop} {B : Nat} {w w' : World} (u : Upd S w w') (h : CellsIn S w) : KeepsFrom B w w' :=
  ⟨u.size, fun k o _ hk ho => (u.block k (Array.getElem?_eq_some_iff.1 hk).1 (fun hs => by
    obtain ⟨c, t, f, hc⟩ := h k (Array.getElem?_eq_some_iff.1 hk).1 hs
    rw [hk] at hc
    cases hc
    cases ho)).trans hk⟩

/-! ### The marks of ended loops among the deferred calls -/
def mark (D : Nat) : Deferred := { target := .collected D, args := #[] }

/-- The deferred calls are the marks of loops in whose rounds nothing was deferred. -/
def Marks (base : Nat) : List Deferred → World → Prop
  | [], _ => True
  | d :: ds, w => (∃ D, d = mark D ∧ base ≤ D ∧ w.heap[D]? = some (.deferred (some [])) ∧ (∀ d' ∈ ds, ∀ D', d' = mark D' → D' < D)) ∧ Marks base ds w

theorem Marks.keep {base : Nat} {S : Nat → Prop} : ∀ {ds : List Deferred} {w w' : World}, Marks base ds w → Upd S w w' → CellsIn S w → Marks base ds w'
  | [], _, _, _, _, _ => trivial
  | d :: ds, w, w', h, u, hc => by
    obtain ⟨⟨D, h1, h2, h3, h4⟩, h5⟩ := h
    refine ⟨⟨D, h1, h2, ?_, h4⟩, h5.keep u hc⟩
    have hlt := lt_of_block h3
    refine (u.block D hlt (fun hs => ?_)).trans h3
    obtain ⟨c, t, f, hq⟩ := hc D hlt hs
    rw [h3] at hq
    cases hq

theorem Marks.lt {base : Nat} : ∀ {ds : List Deferred} {w : World}, Marks base ds w → ∀ d ∈ ds, ∀ D, d = mark D → D < w.heap.size
  | [], _, _, d, hd, _, _ => by cases hd
  | d :: ds, w, h, d', hd, D', e => by
    obtain ⟨⟨D, h1, h2, h3, h4⟩, h5⟩ := h
    rcases List.mem_cons.1 hd with rfl | hd
    · rw [h1] at e
      injection e with e
      injection e with e
      subst e
      exact lt_of_block h3
    · exact h5.lt d' hd D' e

theorem Marks.keepLow {base : Nat} {S : Nat → Prop} {B : Nat} : ∀ {ds : List Deferred} {w w' : World}, Marks base ds w → Upd S w w' → (∀ d ∈ ds, ∀ D, d = mark D → D < B) → (∀ k, S k → B ≤ k) → Marks base ds w'
  | [], _, _, _, _, _, _ => trivial
  | d :: ds, w, w', h, u, hB, hS => by
    obtain ⟨⟨D, h1, h2, h3, h4⟩, h5⟩ := h
    refine ⟨⟨D, h1, h2, ?_, h4⟩, h5.keepLow u (fun d' hd' => hB d' (by simp [hd'])) hS⟩
    exact (u.block D (lt_of_block h3) (fun hs => by have := hB d (by simp) D h1; have := hS D hs; omega)).trans h3

theorem Marks.push {base : Nat} {ds : List Deferred} {w : World} {D : Nat} (h : Marks base ds w) (hb : base ≤ D) (hD : w.heap[D]? = some (.deferred (some []))) (hn : ∀ d ∈ ds, ∀ D', d = mark D' → D' < D) : Marks base (mark D :: ds) w :=
  ⟨⟨D, rfl, hb, hD, hn⟩, h⟩

section steps
variable {rd : Option Nat} {P : Program} {ops : Array Oper} {Q : Exit → Act → World → Prop} {N : Nat} {ds : List Deferred} {rest : List Oper} {L : Slots} {w : World}
variable {d : Nat} {ty : TypeId} {pos : String} {aft : Array Edge} {g : Option (Nat × Bool)} {c : Code}

theorem roundIn_rnd {n m : Nat} {l : Nat} {f : FuncId} {tmps : Array Value} {assign body : Code} {R : Ending → World → Prop} (h : RoundIn Fence.wide m P l f tmps assign body w R) : RoundIn (rnd rd) n P l f tmps assign body w R := by
  obtain ⟨_, h2⟩ := h
  refine ⟨rnd_fn _ _, fun c cs _ => ?_⟩
  have := h2 c cs (room_wide _)
  cases rd with
  | none => exact this
  | some l => exact this

/-- A call of yield: one round. -/
theorem t_yield {f : Operand} {l m : Nat} {xs : Array Operand} {ats : Array TypeId} {vs : List Value} {R : Ending → World → Prop} (hg : grd ops L g = true) (hN : Nat.blt d N = true)
    (hf : ev L f = some (.func (.yield l) #[] #[])) (hv : evs L xs.toList = some vs) (hy : YieldAt Fence.wide m P l vs.toArray w R) (hR : ∀ e w', R e w' → ∃ v, e = .returned v)
    (h : ∀ v w', R (.returned v) w' → WL rd P ops Q N ds rest ((d, v) :: L) w') : WL rd P ops Q N ds (⟨some d, .call ⟨.value f, xs, ats⟩, ty, pos, aft, g⟩ :: rest) L w := by
  refine ⟨fun a ha => ?_⟩
  obtain ⟨fn, tmps, assign, body, hy1, hy2⟩ := hy
  have e1 : xs.map a.eval = vs.toArray := by rw [← ha.evs hv, ← Array.toList_map]
  have hr : (execOp a.eval ⟨some d, .call ⟨.value f, xs, ats⟩, ty, pos, aft, g⟩).run P w = .ok (.round l fn tmps assign body) w := by
    simp [execOp, resolve, ha.ev hf, Deferred.ofValue, invoke, e1, hy1]
  unfold wpListIn
  rw [if_pos (ha.wanted (o := ⟨some d, .call ⟨.value f, xs, ats⟩, ty, pos, aft, g⟩) hg)]
  unfold Oper.wpIn
  refine ⟨fun f _ => rnd_fn _ f, ?_⟩
  rw [semAt_of_ok (by simp) hr, Oper.uponIn_round]
  refine ⟨fun h => by simp [rnd_depth] at h, RoundIn.mono (roundIn_rnd hy2) ?_⟩
  intro e w' r
  obtain ⟨v, rfl⟩ := hR e w' r
  exact h v w' r _ (ha.put v hN)

theorem wpIn_rnd {n m : Nat} {a : Act} (h : c.wpIn (rnd rd) m P Q a w) : c.wpIn (rnd rd) n P Q a w :=
  fun b k cs hro hb _ => h b k cs hro hb (fun d hd => by rw [rnd_depth] at hd; cases hd)

/-- The statement 'for x := range g', g an iterator with a contract; the body never leaves the loop. -/
theorem c_range {α : Type} {go : Operand} {p : Nat} {assign body : Code} {gf : Nat} {lb : List Value} {enc : α → Value} {T : Nat → Prop} {S Sp : List α → Prop} {M m : Nat} (ho : Own P gf)
    (hp : Nat.blt p N = true) (hg : ev L go = some (.func (.func gf) #[] lb.toArray)) (hseq : SeqStopsK Fence.wide m P gf lb.toArray (fun x => #[enc x]) (Upd T) S Sp M w) (hT : ∀ k, w.heap.size ≤ k → T k)
    (I : List α → World → Prop) (hI : OwnFrom w.heap.size I) (h0 : I [] w) (La : α → Slots)
    (hassign : ∀ (l : Nat) (pre : List α) (x : α) (W : World) (K : Act → World → Prop), I pre W → (∀ L', Sub (La x) L' → QK K N [] L' W) → WC (some l) P (Exit.then K (fun _ _ _ => False)) N [] assign ((p, enc x) :: L) W)
    (hbody : ∀ (l : Nat) (pre : List α) (x : α) (W : World), I pre W → pre.length < M → WC (some l) P (ownPostG w.heap.size (Upd T) I (fun _ _ _ => False) (pre ++ [x]) W) N [] body (La x) W)
    (hdone : ∀ (D : Nat) (xs : List α) (W : World), w.heap.size ≤ D → S xs → I xs W → W.heap[D]? = some (.deferred (some [])) → QK (Q .normal) N (mark D :: ds) L W) :
    WC none P Q N ds (.rangeFunc go #[p] assign body) L w := by
  refine ⟨fun a ha => ?_⟩
  have hseq' : SeqStopsK Fence.wide (3 - 1) P gf lb.toArray (fun x => #[enc x]) (Upd T) S Sp M w := by
    intro l J Jx W h1 h2 h3 h4 h5
    refine callsIn_wide.2 (callsIn_wide.1 (hseq l J Jx W h1 h2 h3 (fun pre x W1 h6 h7 => ?_) h5))
    obtain ⟨fn, tmps, assign, body, hy1, hy2⟩ := h4 pre x W1 h6 h7
    exact ⟨fn, tmps, assign, body, hy1, roundIn_rnd (rd := none) hy2⟩
  refine wpIn_rangeFunc_ownH (F := Fence.wide) (n := 3) (w0 := w) rfl (by decide) (ha.ev hg) trivial (fun args w => ho.run args w) hseq' (fun h k => h.trans k)
    (fun W l o o' hl _ _ _ => (Upd.putObj W l o').mono (fun k hk => hT k (by omega))) (Below.refl _ _) (fun _ => rfl) I (fun _ _ _ => False) hI (fun _ _ _ _ _ h _ _ => h) h0
    (fun x a' _ => Kn N [] (La x) a') (fun _ _ _ _ _ _ h _ _ => h) ?_ ?_ ?_ ?_
  · intro l pre x W K hi hK
    have hk : Kn N [] ((p, enc x) :: L) { tmps := (#[p].zip #[enc x]).foldl (fun t (p, v) => t.setIfInBounds p v) a.tmps, defers := [] } := by
      have h1 : Kn N [] L { a with defers := [] } := ⟨ha.size, rfl, ha.get⟩
      have h2 := h1.put (enc x) hp
      refine ⟨by simpa [Act.put] using h2.size, rfl, fun k v hv => ?_⟩
      have := h2.get k v hv
      simpa [Act.put] using this
    refine wpIn_rnd (rd := some l) (m := 3) (hassign l pre x W K hi (fun L' hs => ⟨fun a' ha' => hK a' W (KeepsFrom.refl _ _) (Upd.refl _ _) hi (ha'.sub hs)⟩) _ hk)
  · intro l pre x a' W _ _ hi hA hlen
    exact wpIn_rnd (rd := some l) (m := 3) (hbody l pre x W hi hlen a' hA)
  · intro D xs W hD hS hI' hd
    refine hdone D xs W hD hS hI' hd _ ⟨ha.size, ?_, ha.get⟩
    simp [ha.defers, mark]
  · intro D c pre W _ _ h _
    exact h.elim

theorem f_enterM {R : Value → World → Prop} {f : FuncId} {fn : Func} {vs : List Value} (hf : P.funcs[f]? = some fn) (hb : fn.body = some c) (hn : Nat.ble vs.length N = true) (hN : fn.ntmps = N)
    (h : WC none P (bodyPostM (rnd none) 3 P fn fun e w' => ∃ v, e = .returned v ∧ R v w') N [] c (args 0 vs) w) : CallsV P f vs w R := by
  refine callsIn_wide.1 (callsIn_of_wp_marks (F := Fence.wide) (n := 3) hf hb trivial (h _ ⟨?_, rfl, ?_⟩))
  · have : vs.length ≤ N := Nat.le_of_ble_eq_true hn
    simp [hN]; omega
  · intro k v hk
    have ⟨_, h2⟩ := look_args vs 0 v hk
    rw [Array.getD_eq_getD_getElem?]
    have h3 : k < vs.length := by
      rcases Nat.lt_or_ge k vs.length with h | h
      · exact h
      · simp [List.getElem?_eq_none h] at h2
    rw [Array.getElem?_append_left (by simpa using h3)]
    simpa using congrArg (fun o => o.getD undef) h2

def tmpRes (L : Slots) : ResultVar → Option Value
  | .tmp t => look t L
  | .cell _ _ => none

theorem tmpRes.run {r : ResultVar} {v : Value} (h : tmpRes L r = some v) {a : Act} (ha : Kn N ds L a) (w : World) : (resOf a.tmps r).run P w = .ok v w := by
  cases r with
  | tmp t => simp only [resOf, Sem.run_pure]; rw [ha.get _ _ h]
  | cell s t => cases h

end steps
end Go.Proofs.YtjdcpnaocjddoaaGreatDoor
namespace Go.Proofs.YtjdcpnaocjddoaaGreatDoor
open Go Go.RowKit Go.Proofs.Tryz
/-! ### bytes in blocks -/
abbrev Ix (n : Nat) := { k : Nat // k < n }
theorem vals_snoc {n : Nat} {pre : List (Ix n)} {x : Ix n} {l : List Nat} (h : pre.map (·.1) = l) : (pre ++ [x]).map (·.1) = l ++ [x.1] := by rw [List.map_append, h]; rfl
/-- block k of bytes, as it is handed out -/
def encCk (ab : Option Addr) {m : Nat} (x : Ix m) : Value := .slice (subAddr ab (32 * x.1 + 32) (32 * x.1) 1) 32 32
def mk32 (l : List UInt8) : Bk := if h : l.length = 32 then ⟨l, h⟩ else zeroBk
theorem mk32_l {l : List UInt8} (h : l.length = 32) : (mk32 l).l = l := by unfold mk32; rw [dif_pos h]
def ckP (b : List UInt8) (k : Nat) : List UInt8 := (b.drop (32 * k)).take 32
theorem ckP_len {b : List UInt8} {m k : Nat} (hb : b.length = 32 * m) (hk : k < m) : (ckP b k).length = 32 := by unfold ckP; rw [List.length_take, List.length_drop]; omega
/-- the blocks of bytes -/
def blksP (b : List UInt8) (m : Nat) : List Bk := (List.range m).map fun k => mk32 (ckP b k)
theorem blksP_len (b : List UInt8) (m : Nat) : (blksP b m).length = m := by unfold blksP; rw [List.length_map, List.length_range]
/-- what open returns -/
def opE (b : List UInt8) : Int := if b.length % 32 ≠ 0 ∨ b.length / 32 < 2 ∨ b.length / 32 % 5 = 1 then 4 else if 1300 < b.length / 32 then 5 else 0
def opP (b : List UInt8) : List Bk := if opE b = 0 then blksP b (b.length / 32) else []
theorem opE_ok {b : List UInt8} (h : opE b = 0) : b.length = 32 * (b.length / 32) ∧ 2 ≤ b.length / 32 ∧ b.length / 32 % 5 ≠ 1 ∧ b.length / 32 ≤ 1300 := by
  unfold opE at h
  split at h
  · cases h
  · split at h
    · cases h
    · omega
theorem mk32_bytes (v : Bk) : mk32 v.l = v := Bk.ext' (mk32_l v.h)
theorem ckP_bytes : ∀ (v : List Bk) (i : Nat) (h : i < v.length), ckP (bytesP v) i = v[i].l
  | x :: v, 0, _ => by
    have e : bytesP (x :: v) = x.l ++ bytesP v := rfl
    have hx := x.h
    unfold ckP
    rw [e, Nat.mul_zero, List.drop_zero, List.take_append_of_le_length (by omega), List.take_of_length_le (by omega)]; rfl
  | x :: v, i + 1, h => by
    have e : bytesP (x :: v) = x.l ++ bytesP v := rfl
    have hx := x.h
    have ih := ckP_bytes v i (by simpa using h)
    unfold ckP at ih ⊢
    rw [e, List.drop_append, List.drop_of_length_le (by omega), List.nil_append, hx, show 32 * (i + 1) - 32 = 32 * i by omega]
    exact ih
theorem blksP_of (v : List Bk) : blksP (bytesP v) v.length = v := by
  refine List.ext_getElem? fun i => ?_
  unfold blksP
  rw [List.getElem?_map]
  rcases Nat.lt_or_ge i v.length with h | h
  · rw [List.getElem?_range h, List.getElem?_eq_getElem h]
    show some (mk32 (ckP (bytesP v) i)) = some v[i]
    rw [ckP_bytes v i h, mk32_bytes]
  · rw [List.getElem?_eq_none (by rw [List.length_range]; exact h), List.getElem?_eq_none h]; rfl
theorem ck_at {b : List UInt8} {w : World} {ab : Option Addr} {bb ob m k : Nat} (h : Sl encY 1 w ab bb ob b) (hl : b.length = 32 * m) (hk : k < m) : subAddr ab (32 * k + 32) (32 * k) 1 = some ⟨bb, ob + 32 * k, none⟩ ∧ At w bb (ob + 32 * k) (ys (mk32 (ckP b k)).l) := by
  have hc := ckP_len hl hk
  constructor
  · have ha := h.addr (by omega)
    subst ha
    unfold subAddr
    rw [if_neg (by omega)]
    simp [addr_add]
  · rw [mk32_l hc]
    intro j v hv
    have hj : j < (ckP b k).length := by have := (List.getElem?_eq_some_iff.1 hv).1; rwa [ys_length] at this
    have e := (ys_nth hj).symm.trans hv
    injection e with e
    subst e
    have hn : nth (ckP b k) j = nth b (32 * k + j) := by unfold ckP; rw [nth_takeL (by omega), nth_drop]
    rw [hn]
    have h9 := h.at_ (32 * k + j) (by omega) 0 _ rfl
    rwa [show ob + (32 * k + j) * 1 + 0 = ob + 32 * k + j by omega] at h9
theorem own144 : Own Tryz.prog 144 := ⟨Tryz.f144, func144, by kernel_rfl, by kernel_rfl⟩

theorem chunk_c (ab : Option Addr) (n cb : Nat) (w0 : World) :
    CallsV Tryz.prog 110 [.slice ab n cb, .int .i64 32] w0 (fun v w' => (∃ b1 b2, v = .func (.func 144) #[] #[.pointer (some ⟨b1, 0, none⟩), .pointer (some ⟨b2, 0, none⟩)] ∧ w0.heap.size ≤ b1 ∧ w0.heap.size ≤ b2 ∧ Blk w' b1 25 [.slice ab n cb] ∧ Blk w' b2 3 [.int .i64 32]) ∧ Ext w0 w') := by
 refine f_n func110 ?_
 refine go ?_
 refine x_b fun bk2 w3 ebk2 sbk2 B4 u5 => ?_
 refine x_b fun bk7 w8 ebk7 sbk7 B9 u10 => ?_
 refine go ?_
 refine t_mkfunc (vs := []) (us := [.pointer (some ⟨bk2, 0, none⟩), .pointer (some ⟨bk7, 0, none⟩)]) rfl rfl rfl rfl ?_
 refine go ?_
 refine f_1 results110 ?_
 have B15 := (B4.kx u10)
 exact ⟨⟨_, _, rfl, by omega, by omega, B15, B9⟩, u_d⟩

set_option maxHeartbeats 4000000 in
set_option maxRecDepth 20000 in
theorem chunk1_c (m n : Nat) (ab : Option Addr) (cb b1 b2 l q : Nat) (T : Nat → Prop) (J Jx : List (Ix m) → World → Prop) (w0 : World) (hn : n = 32 * m) (hm : m ≤ 100000) (hcb : n ≤ cb) (h1 : Blk w0 b1 25 [.slice ab n cb]) (h2 : Blk w0 b2 3 [.int .i64 32]) (hT1 : ¬ T b1) (hT2 : ¬ T b2) (hJ : AbidesFrom w0.heap.size J) (hY : ∀ pre x W1, J pre W1 → pre.length < m → YieldAt Fence.wide q Tryz.prog l #[encCk ab x] W1 fun e W' => (e = .returned (.bool true) ∧ J (pre ++ [x]) W' ∧ Upd T W1 W') ∨ (e = .returned (.bool false) ∧ Jx (pre ++ [x]) W')) (hJ0 : J [] w0) :
    CallsV Tryz.prog 144 [.func (.yield l) #[] #[], .pointer (some ⟨b1, 0, none⟩), .pointer (some ⟨b2, 0, none⟩)] w0 (fun v w' => ∃ u, v = u ∧ ((∃ xs : List (Ix m), xs.map (·.1) = List.range m ∧ J xs w') ∨ (∃ pre, Jx pre w'))) := by
 have l1 := h1.lt
 have l2 := h2.lt
 refine f_n func144 ?_
 refine go ?_
 refine x_l3 (fun i => T i) [0, 1, 2] (fun (k : Nat) (e : Nat) (pre : List (Ix m)) => [(4, .int .i64 (e : Int))]) (fun k e pre w => (k ≤ m) ∧ (e = 32 * k) ∧ (pre.map (·.1) = List.range k) ∧ (J pre w)) (fun k e pre => m - k) 0 0 ([]) ⟨(Nat.zero_le _), rfl, rfl, hJ0⟩ ?_
 rintro k e pre w3 ⟨hk, he, hpre, hJk⟩ u4 zu4 K2 hK2
 have hplk : pre.length = k := by have h9 := congrArg List.length hpre; rw [List.length_map, List.length_range] at h9; exact h9
 refine go ?_
 refine q_p (fun g9 => ?_) fun g9 => ?_
 ·
  have hkn : k < m := by omega
  have hplm : pre.length < m := by omega
  refine go ?_
  refine c_drawnM follows (fun _ => False) (OTl [0, 2, 4, 6, 8, 10, 12]) (by kernel_rfl) fun w10 u11 => ?_
  have zu11 := u11.size
  refine go ?_
  refine y_sliceFrom (e) underlying25 sizeOf5 rfl rfl rfl rfl rfl (by omega) (by omega) ?_
  refine go ?_
  refine y_min rfl rfl rfl rfl (y_same 18 (v := .int .i64 32) rfl (congrArg (Value.int .i64) (by omega)) ?_)
  refine go ?_
  refine t_slice3 (e) (e + 32) (e + 32) underlying25 sizeOf5 rfl rfl rfl rfl rfl rfl (by omega) (by omega) (by omega) (by omega) (by omega) (by omega) (t_same 28 (v := .slice (subAddr ab (32 * k + 32) (32 * k) 1) 32 32) rfl (by rw [show e + 32 - e = 32 by omega, he]) (t_yield (vs := [.slice (subAddr ab (32 * k + 32) (32 * k) 1) 32 32]) rfl rfl rfl rfl (hY pre ⟨k, hkn⟩ _ (hJ _ _ _ none hJk (Ext.grownBy ((Upd.refl (fun _ => False) _).nx u11)) (fun r e => by cases e)) hplm) (by rintro e w' (⟨rfl, _⟩ | ⟨rfl, _⟩) <;> exact ⟨_, rfl⟩) (fun v14 w15 r16 => ?_)))
  obtain ⟨yb, rfl, hrd⟩ : ∃ b, v14 = .bool b ∧ ((b = true → J (pre ++ [⟨k, hkn⟩]) w15 ∧ Upd T w10 w15) ∧ (b = false → Jx (pre ++ [⟨k, hkn⟩]) w15)) := by
    rcases r16 with ⟨e, h⟩ | ⟨e, h⟩
    · injection e with e; exact ⟨true, e, fun _ => h, fun h => by cases h⟩
    · injection e with e; exact ⟨false, e, fun h => (by cases h), fun _ => h⟩
  refine go ?_
  refine q_b (fun g30 => ?_) fun g30 => ?_
  ·
   refine go ?_
   refine f_ret0 results144 ?_
   exact ⟨_, rfl, .inr ⟨_, hrd.2 (by simpa using g30)⟩⟩
  obtain ⟨hJ2, u17⟩ := hrd.1 (by simpa using g30)
  have zu17 := u17.size
  refine go ?_
  exact hK2 (k + 1) (e + 32) (pre ++ [⟨k, hkn⟩]) ⟨(by omega), (by omega), (by rw [vals_snoc hpre, List.range_succ]), hJ2⟩ (hu := ((u4.nx u11).next u17 (fun i hi (h : T i) => show T i by first | omega | assumption)))
 refine go ?_
 refine f_ret0 results144 ?_
 exact ⟨_, rfl, .inl ⟨pre, (by rw [hpre, show k = m from by omega]), hJk⟩⟩


theorem chunk_seq (m n : Nat) (ab : Option Addr) (cb b1 b2 : Nat) (T : Nat → Prop) (w : World) (hn : n = 32 * m) (hm : m ≤ 100000) (hcb : n ≤ cb) (h1 : Blk w b1 25 [.slice ab n cb]) (h2 : Blk w b2 3 [.int .i64 32]) (hT1 : ¬ T b1) (hT2 : ¬ T b2) :
    SeqStopsK Fence.wide 2 Tryz.prog 144 [.pointer (some ⟨b1, 0, none⟩), .pointer (some ⟨b2, 0, none⟩)].toArray (fun x => #[encCk ab x]) (Upd T) (fun xs : List (Ix m) => xs.map (·.1) = List.range m) (fun _ => True) m w := by
  intro l J Jx W hW hJ hJx hY h0
  have hE : Ext w W := Below.ext hW
  refine callsIn_wide.2 (Calls.mono (chunk1_c m n ab cb b1 b2 l 1 T J Jx W hn hm hcb (h1.keep hE (fun h => h)) (h2.keep hE (fun h => h)) hT1 hT2 hJ hY h0) ?_)
  rintro e w' ⟨v, rfl, u, rfl, h⟩
  exact ⟨⟨_, rfl⟩, h.imp (fun h => h) (fun ⟨pre, h⟩ => ⟨pre, trivial, h⟩)⟩

end Go.Proofs.YtjdcpnaocjddoaaGreatDoor
