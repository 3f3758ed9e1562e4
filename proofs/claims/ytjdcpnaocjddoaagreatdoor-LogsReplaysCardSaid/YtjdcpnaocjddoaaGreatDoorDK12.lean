/-
  Part 12 of the proof: contracts and plain laws. Conditions: none.
-/
import Derived.Maps.RangeRun
import Derived.Test.YtjdcpnaocjddoaaGreatDoorDK11
namespace Go.Proofs.YtjdcpnaocjddoaaGreatDoor
open Go Go.RowKit Go.Proofs.Tryz
theorem Sl.ofBlk {α : Type} [Inhabited α] {enc : α → List Value} {k : Nat} (hk : ∀ x, (enc x).length = k) {w : World} {b : Nat} {t : TypeId} {xs : List α} (h : Blk w b t (xs.flatMap enc)) : Sl enc k w (some ⟨b, 0, none⟩) b 0 xs :=
  ⟨fun _ => rfl, fun _ => h.lt, fun i hi j v hv => by
    have h1 := flatMap_at hk xs i j v hi hv
    rw [Nat.zero_add]
    exact h.get h1⟩
/-! ### The document's examples -/
def knE1 : List Ent := [⟨2, 1, 1, 3, 0, 0⟩]
def knE4 : List Ent := [⟨0, 1, 1, 10, 0, 0⟩, ⟨0, 2, 1, 0, 5, 50⟩, ⟨0, 3, 1, 30, 0, 0⟩, ⟨0, 4, 1, 0, 5, 20⟩]
def knB (b : Nat) : Bil := ⟨5, 9, 1200, 10, 250, [3, 77], some ⟨b, 0, none⟩, b, 0, 2⟩
theorem kn_code : codeR 5 = ([48, 48, 49, 49, 48], 0) := by kernel_rfl
theorem kn_dec : decP [48, 48, 49, 49, 48, 49] = (5, 5, 0) := by kernel_rfl
theorem kn_log1 : chkE knE1 = 0 := by kernel_rfl
theorem kn_log2 : (logP knE1).length = 64 ∧ nth (logP knE1) 0 = 142 ∧ nth (logP knE1) 1 = 64 ∧ nth (logP knE1) 30 = 1 ∧ nth (logP knE1) 31 = 14 ∧ nth (logP knE1) 62 = 4 ∧ nth (logP knE1) 63 = 223 := ⟨by kernel_rfl, by kernel_rfl, by kernel_rfl, by kernel_rfl, by kernel_rfl, by kernel_rfl, by kernel_rfl⟩
theorem kn_rep : repP zSea knE4 = (0, 0, ⟨0, 1000, [⟨1, 30, [⟨5, 30⟩]⟩], [⟨5, 50⟩], [⟨5, 20⟩]⟩) := by kernel_rfl
theorem kn_i5 : Lib.itoa 5 = [53] := by simp [Lib.itoa, Lib.decDigits]
theorem kn_i9 : Lib.itoa 9 = [57] := by simp [Lib.itoa, Lib.decDigits]
theorem kn_i1200 : Lib.itoa 1200 = [49, 50, 48, 48] := by simp [Lib.itoa, Lib.decDigits]
theorem kn_i10 : Lib.itoa 10 = [49, 48] := by simp [Lib.itoa, Lib.decDigits]
theorem kn_i250 : Lib.itoa 250 = [50, 53, 48] := by simp [Lib.itoa, Lib.decDigits]
theorem kn_i3 : Lib.itoa 3 = [51] := by simp [Lib.itoa, Lib.decDigits]
theorem kn_i77 : Lib.itoa 77 = [55, 55] := by simp [Lib.itoa, Lib.decDigits]
def knT : List UInt8 := [53, 32, 57, 32, 49, 50, 48, 48, 32, 49, 48, 62, 50, 53, 48, 32, 51, 44, 55, 55, 32, 99, 108, 10]
theorem kn_chkB (b : Nat) : chkB 0 [knB b] = 0 := by kernel_rfl
theorem kn_bill (b : Nat) : billP (knB b) = knT := by
  unfold billP sealsP
  show sealedP [Lib.itoa 5, Lib.itoa 9, Lib.itoa 1200, Lib.itoa 10 ++ [62] ++ Lib.itoa 250, Lib.join [Lib.itoa 3, Lib.itoa 77] [44]] = knT
  rw [kn_i5, kn_i9, kn_i1200, kn_i10, kn_i250, kn_i3, kn_i77]
  kernel_rfl
theorem kn_txt (b : Nat) : textP [knB b] = (knT, 0) := by
  unfold textP
  rw [if_neg (by simp), if_pos (kn_chkB b)]
  have e : [knB b].flatMap billP = billP (knB b) := by simp
  rw [e, kn_bill]
theorem knCode_c (w0 : World) : CallsV Tryz.prog 24 [.int .i64 5] w0 fun v w' => v = .tuple #[.string (strB [48, 48, 49, 49, 48]), .int .i64 0] ∧ Ext w0 w' := by
  have h := Code_c 5 w0
  rw [kn_code] at h
  exact h
theorem knDec_c (w0 : World) : CallsV Tryz.prog 26 [.string (strB [48, 48, 49, 49, 48, 49])] w0 fun v w' => v = .tuple #[.int .i64 5, .int .i64 5, .int .i64 0] ∧ Ext w0 w' := by
  have h := Decode_c [48, 48, 49, 49, 48, 49] w0 (by decide)
  rw [kn_dec] at h
  exact h
theorem knLog_c (b : Nat) (w0 : World) (hB : Blk w0 b 43 [.int .i64 2, .int .i64 1, .int .i64 1, .int .i64 3, .int .i64 0, .int .i64 0]) : CallsV Tryz.prog 15 [.slice (some ⟨b, 0, none⟩) 1 1] w0 fun v w' => (∃ a9 g9 c9, v = .tuple #[.slice a9 64 c9, .int .i64 0] ∧ Acc encY 1 5 w0.heap.size w' a9 g9 c9 (logP knE1)) ∧ Ext w0 w' := by
  have h := WriteLog_c knE1 (some ⟨b, 0, none⟩) b 0 1 w0 (Sl.ofBlk (enc := encEnt) (k := 6) (xs := knE1) (fun _ => rfl) hB) (by decide) (by have := hB.lt; omega)
  rw [kn_log1, kn_log2.1] at h
  exact h
theorem knRep_c (b : Nat) (w0 : World) (hB : Blk w0 b 43 (knE4.flatMap encEnt)) : CallsV Tryz.prog 20 [.agg #[.int .i64 0, .slice none 0 0, .slice none 0 0, .slice none 0 0, .int .i64 0], .slice (some ⟨b, 0, none⟩) 4 4] w0 fun v w' => (∃ m a c l1 a1 c1 l2 a2 c2, v = .tuple #[.agg #[.int .i64 m, .slice a 1 c, .slice a1 l1 c1, .slice a2 l2 c2, .int .i64 1000], .int .i64 0, .int .i64 0]) ∧ Ext w0 w' := by
  have hz : SeaOk 0 SG0.st := ⟨asc_nil, fun h hh => (by cases hh), CgOk.nil _, CgOk.nil _, by decide, by decide, by decide⟩
  have hp : 0 < w0.heap.size := by have := hB.lt; omega
  refine CallsV.mono (Replay_c knE4 (some ⟨b, 0, none⟩) b 0 4 SG0 0 0 0 0 w0 (Sl.ofBlk (enc := encEnt) (k := 6) (xs := knE4) (fun _ => rfl) hB) (by decide) hp (SIn.zero hp) hz (by decide)) ?_
  rintro v w' ⟨⟨V9, rfl, hI, hst, _⟩, u⟩
  have hr : repP SG0.st knE4 = (0, 0, ⟨0, 1000, [⟨1, 30, [⟨5, 30⟩]⟩], [⟨5, 50⟩], [⟨5, 20⟩]⟩) := kn_rep
  rw [hr] at hst ⊢
  have h1 : V9.wk = 1000 := congrArg Sea.wk hst
  have h2 : V9.rs.length = 1 := by
    have h3 := congrArg (fun s : Sea => s.hs.length) hst
    have h3 : (V9.rs.map HR.hul).length = 1 := h3
    rwa [List.length_map] at h3
  exact ⟨⟨V9.m, V9.ah, V9.ch, _, V9.al, V9.cl, _, V9.au, V9.cu, by unfold SG.cells; rw [h1, h2]; rfl⟩, u⟩
theorem knBills_c (b b2 : Nat) (w0 : World) (hT : Tab10 w0) (hB2 : Blk w0 b2 3 [.int .i64 3, .int .i64 77]) (hB : Blk w0 b 71 [.int .i64 5, .int .i64 9, .int .i64 1200, .int .i64 10, .int .i64 250, .slice (some ⟨b2, 0, none⟩) 2 2]) : CallsV Tryz.prog 38 [.slice (some ⟨b, 0, none⟩) 1 1] w0 fun v w' => v = .tuple #[.string (strB knT), .int .i64 0] ∧ Ext w0 w' := by
  have h := WriteBills_c [knB b2] (some ⟨b, 0, none⟩) b 0 1 w0 (Sl.ofBlk (enc := encBil) (k := 6) (xs := [knB b2]) (fun _ => rfl) hB) (fun x hx => by rw [List.mem_singleton.1 hx]; exact ⟨SlI.own (xs := [3, 77]) hB2, by show 2 ≤ 1000000; decide⟩) (by simp) hT (by have := hB.lt; omega)
  rw [kn_txt] at h
  exact h
set_option maxHeartbeats 4000000 in
theorem known_c  (w0 : World) (hT : Tab10 w0) (_hpos : 0 < w0.heap.size) :
    CallsV Tryz.prog 13 [] w0 (fun v w' => v = .bool true ∧ Ext w0 w') := by
 have hl64 : (logP knE1).length = 64 := kn_log2.1
 have ht24 : knT.length = 24 := rfl
 refine f_n func13 ?_
 refine go ?_
 refine x_c func24 rfl rfl (knCode_c _) ?_
 rintro _ w4 ⟨rfl, u5⟩ zu5
 refine go ?_
 refine x_c func26 rfl rfl (knDec_c _) ?_
 rintro _ w10 ⟨rfl, u11⟩ zu11
 refine go ?_
 refine x_l fun bk15 w16 ebk15 sbk15 B17 u18 => ?_
 refine x_c func15 rfl rfl (knLog_c bk15 _ B17) ?_
 rintro _ w21 ⟨⟨a9, g9, c9, rfl, hF9⟩, u22⟩ zu22
 have lt_g9 := hF9.lt
 refine go ?_
 refine x_l fun bk26 w27 ebk26 sbk26 B28 u29 => ?_
 refine x_c func20 rfl rfl (knRep_c bk26 _ B28) ?_
 rintro _ w32 ⟨⟨m9, ah9, ch9, l19, al9, cl9, l29, au9, cu9, rfl⟩, u33⟩ zu33
 refine go ?_
 refine x_n fun bk36 w37 ebk36 sbk36 B38 u39 => ?_
 refine x_s fun w41 sw41 B43 u42 => ?_
 refine go ?_
 refine x_l fun bk46 w47 ebk46 sbk46 B48 u49 => ?_
 refine go ?_
 refine x_l fun bk51 w52 ebk51 sbk51 B53 u54 => ?_
 have B56 := (B48.kx u54)
 refine x_c func38 rfl rfl (knBills_c bk51 bk46 _ (hT.ext (((((((((((Upd.refl (fun _ => False) w0).nx u5).nx u11).nx u18).nx u22).nx u29).nx u33).nx u39).next u42 (fun i hi h => by omega)).nx u49).nx u54)) B56 B53) ?_
 rintro _ w58 ⟨rfl, u59⟩ zu59
 refine go ?_
 refine t_lenS underlying9 rfl rfl rfl rfl (t_same 77 (v := .int .i64 24) rfl rfl ?_)
 refine go ?_
 refine t_bo (Bo.eqS ([48, 48, 49, 49, 48]) ([48, 48, 49, 49, 48])) rfl rfl rfl rfl (t_same 81 (v := .bool true) rfl (congrArg Value.bool (decide_eq_true rfl)) ?_)
 refine go ?_
 have D65 := (((((((hF9.keep u29 (fun _ h => h)).keep u33 (fun _ h => h)).keep u39 (fun _ h => h)).keep u42 (fun hb => show ¬ (g9 = bk36) by first | omega | assumption)).keep u49 (fun _ h => h)).keep u54 (fun _ h => h)).keep u59 (fun _ h => h))
 refine g_i 0 (D65.sl (fun _ => rfl)) (fun _ => ?_)
 refine st1 ?_
 refine t_same 93 (v := .int .u8 142) rfl (by rw [kn_log2.2.1]; rfl) ?_
 refine go ?_
 refine g_i 1 (D65.sl (fun _ => rfl)) (fun _ => ?_)
 refine st1 ?_
 refine t_same 99 (v := .int .u8 64) rfl (by rw [kn_log2.2.2.1]; rfl) ?_
 refine go ?_
 refine g_i 30 (D65.sl (fun _ => rfl)) (fun _ => ?_)
 refine st1 ?_
 refine t_same 105 (v := .int .u8 1) rfl (by rw [kn_log2.2.2.2.1]; rfl) ?_
 refine go ?_
 refine g_i 31 (D65.sl (fun _ => rfl)) (fun _ => ?_)
 refine st1 ?_
 refine t_same 111 (v := .int .u8 14) rfl (by rw [kn_log2.2.2.2.2.1]; rfl) ?_
 refine go ?_
 refine g_i 62 (D65.sl (fun _ => rfl)) (fun _ => ?_)
 refine st1 ?_
 refine t_same 117 (v := .int .u8 4) rfl (by rw [kn_log2.2.2.2.2.2.1]; rfl) ?_
 refine go ?_
 refine g_i 63 (D65.sl (fun _ => rfl)) (fun _ => ?_)
 refine st1 ?_
 refine t_same 123 (v := .int .u8 223) rfl (by rw [kn_log2.2.2.2.2.2.2]; rfl) ?_
 refine go ?_
 refine t_subS 0 21 underlying9 rfl rfl rfl (.inr ⟨rfl, rfl⟩) (k := .i64) (m := 0) (x1 := .tmp 0) (.inl ⟨rfl, rfl, by first | rfl | omega⟩) (by omega) (by omega) (t_bo (Bo.eqS (((knT).drop 0).take (21 - 0)) ([53, 32, 57, 32, 49, 50, 48, 48, 32, 49, 48, 62, 50, 53, 48, 32, 51, 44, 55, 55, 32])) rfl rfl rfl rfl (t_same 134 (v := .bool true) rfl (congrArg Value.bool (decide_eq_true (by kernel_rfl))) ?_))
 refine go ?_
 refine f_1 results13 ?_
 exact ⟨rfl, u_d⟩

end Go.Proofs.YtjdcpnaocjddoaaGreatDoor
namespace Go.Proofs.YtjdcpnaocjddoaaGreatDoor
open Go Go.RowKit
/-- How keys and values of a map are laid. -/
structure Cod (α β : Type) where
  k : α → Value
  v : β → Value
def kvG {α β : Type} (c : Cod α β) (p : α × β) : Value × Value := (c.k p.1, c.v p.2)
/-- In block r lies a map with these keys and values. -/
def MapG {α β : Type} (cd : Cod α β) (m : List (α × β)) (w : World) (r : Nat) : Prop := ∃ es c, w.heap[r]? = some (.map es c) ∧ es.toList.map (fun e => (e.key, e.val)) = m.map (kvG cd) ∧ (∀ e ∈ es.toList, e.born < c) ∧ (es.toList.map (·.born)).Nodup
section
variable {α β : Type} {cd : Cod α β}
theorem MapG.lt {m : List (α × β)} {w : World} {r : Nat} (h : MapG cd m w r) : r < w.heap.size := by obtain ⟨es, c, h, _⟩ := h; exact lt_of_block h
theorem MapG.keep {m : List (α × β)} {w w' : World} {r : Nat} {S : Nat → Prop} (h : MapG cd m w r) (u : Upd S w w') (hn : ¬ S r) : MapG cd m w' r := by
  obtain ⟨es, c, h1, h2⟩ := h
  exact ⟨es, c, (u.block r (lt_of_block h1) hn).trans h1, h2⟩
theorem MapG.ofMemo {w : World} {r : Nat} (h : ∀ F, Memo F w r) : MapG cd [] w r := by
  obtain ⟨es, c, h1, h2⟩ := h (fun _ _ _ => False)
  have he : es.toList = [] := by
    cases he : es.toList with
    | nil => rfl
    | cons e l => obtain ⟨_, _, _, hf⟩ := h2 e (by rw [he]; simp); exact hf.elim
  exact ⟨es, c, h1, by rw [he]; rfl, by rw [he]; simp, by rw [he]; simp⟩
end
/-- Where a key stands, and its value. -/
def fG {α β : Type} [DecidableEq α] : List (α × β) → α → Nat → Option (Nat × β)
  | [], _, _ => none
  | p :: m, a, i => if a = p.1 then some (i, p.2) else fG m a (i + 1)
def gtG {α β : Type} [DecidableEq α] (m : List (α × β)) (a : α) : Option β := (fG m a 0).map (·.2)
def upG {α β : Type} [DecidableEq α] (m : List (α × β)) (a : α) (v : β) : List (α × β) := match fG m a 0 with
  | none => m ++ [(a, v)]
  | some p => m.set p.1 (a, v)
/-- What the key's type must know: whether two keys are one. -/
structure KeyOK (P : Program) (K : TypeId) {α β : Type} [DecidableEq α] (cd : Cod α β) : Prop where
  find : ∀ (m : List (α × β)) (es : List MapEntry) (a : α) (w : World), es.map (fun e => (e.key, e.val)) = m.map (kvG cd) → (Instr.findKey K (cd.k a) es).run P w = .ok ((fG m a 0).map fun p => (p.1, cd.v p.2)) w
  check : ∀ (em : Bool) (a : α) (w : World), (Instr.checkKey em 10000 K (cd.k a)).run P w = .ok () w
  stays : ∀ (a : α) (w : World), (Instr.keyThatStays (cd.k a) (cd.k a)).run P w = .ok (cd.k a) w
section
variable {α β : Type} [DecidableEq α] {cd : Cod α β}
end
section
variable {P : Program} {α β : Type} [DecidableEq α]
theorem findNowG {v : β → Value} {a : Int} : ∀ (m : List (Int × β)) (es : List MapEntry) (i : Nat), es.map (fun e => (e.key, e.val)) = m.map (kvG ⟨.int .i64, v⟩) → Instr.findNow (.int .i64) (.int .i64 a) es i = some ((fG m a i).map fun p => (p.1, v p.2))
  | [], [], i, _ => rfl
  | [], _ :: _, _, h => by simp at h
  | _ :: _, [], _, h => by simp at h
  | p :: m, e :: es, i, h => by
    simp only [List.map_cons, List.cons.injEq, kvG, Prod.mk.injEq] at h
    obtain ⟨⟨hk, hv⟩, h⟩ := h
    have ih := findNowG (a := a) m es (i + 1) h
    by_cases q : a = p.1
    · simp [Instr.findNow, hk, hv, Instr.sameNow, fG, q]
    · have hs : Instr.sameNow (.int .i64) (.int .i64 a) e.key = some false := by rw [hk]; simp [Instr.sameNow, q]
      rw [Instr.findNow, hs]
      simp only [fG, if_neg q]
      exact ih
theorem checkKeyN {K : TypeId} (hK : P.underlying K = some (.int .i64)) (em : Bool) (n : Nat) (a : Int) (w : World) : (Instr.checkKey em (n + 1) K (.int .i64 a)).run P w = .ok () w := by
  simp [Instr.checkKey, run_underlying hK]
theorem KeyOK.int {K : TypeId} (hK : P.underlying K = some (.int .i64)) (v : β → Value) : KeyOK P K (⟨.int .i64, v⟩ : Cod Int β) :=
  ⟨fun m es a w h => by simp [Instr.findKey, run_underlying hK, findNowG m es 0 h], fun em a w => checkKeyN hK em 9999 a w, fun a w => by simp [Instr.keyThatStays, Instr.sameBits]⟩
end
section steps
variable {rd : Option Nat} {P : Program} {ops : Array Oper} {Q : Exit → Act → World → Prop} {N : Nat} {ds : List Deferred} {rest : List Oper} {L : Slots} {w : World}
variable {α β : Type} [DecidableEq α] {cd : Cod α β}
variable {d : Nat} {ty : TypeId} {pos : String} {aft : Array Edge} {g : Option (Nat × Bool)}
end steps
section steps2
variable {rd : Option Nat} {P : Program} {ops : Array Oper} {Q : Exit → Act → World → Prop} {N : Nat} {ds : List Deferred} {rest : List Oper} {L : Slots} {w : World}
variable {α β : Type} {cd : Cod α β}
variable {d : Nat} {ty : TypeId} {pos : String} {aft : Array Edge} {g : Option (Nat × Bool)}
/-- A range over the map in block r is under way, its iterator lies in block it; these entries are to come. -/
def ItG {α β : Type} (cd : Cod α β) (m left : List (α × β)) (w : World) (r it : Nat) : Prop := ∃ es c since seen c0, w.heap[r]? = some (.map es c) ∧ es.toList.map (fun e => (e.key, e.val)) = m.map (kvG cd) ∧ (es.toList.map (·.born)).Nodup ∧ w.heap[it]? = some (.mapIter (some r) since seen c0) ∧ (∀ e ∈ es.toList, e.born < since) ∧ since ≤ c0 ∧ since ≤ c ∧ (leftOf es seen).toList.map (fun e => (e.key, e.val)) = left.map (kvG cd)
theorem ItG.keep {m left : List (α × β)} {w w' : World} {r it : Nat} {S : Nat → Prop} (h : ItG cd m left w r it) (u : Upd S w w') (h1 : ¬ S r) (h2 : ¬ S it) : ItG cd m left w' r it := by
  obtain ⟨es, c, since, seen, c0, q1, q2, q3, q4, q5⟩ := h
  exact ⟨es, c, since, seen, c0, (u.block r (lt_of_block q1) h1).trans q1, q2, q3, (u.block it (lt_of_block q4) h2).trans q4, q5⟩
theorem ItG.same {m left : List (α × β)} {w w' : World} {r it : Nat} (h : ItG cd m left w r it) (h1 : w'.heap[r]? = w.heap[r]?) (h2 : w'.heap[it]? = w.heap[it]?) : ItG cd m left w' r it := by
  obtain ⟨es, c, since, seen, c0, q1, q2, q3, q4, q5⟩ := h
  exact ⟨es, c, since, seen, c0, h1.trans q1, q2, q3, h2.trans q4, q5⟩
theorem ItG.map {m left : List (α × β)} {w : World} {r it : Nat} (h : ItG cd m left w r it) : ∃ a b, w.heap[r]? = some (.map a b) := by obtain ⟨es, c, since, seen, c0, q1, q2, q3, q4, q5⟩ := h; exact ⟨_, _, q1⟩
end steps2
end Go.Proofs.YtjdcpnaocjddoaaGreatDoor
namespace Go.Proofs.YtjdcpnaocjddoaaGreatDoor
open Go Go.RowKit Go.Proofs.Tryz
/-! ### a season: the map of tons, and sums -/
section
variable {α β : Type} [DecidableEq α]
def upR (a : α) (v : β) : List (α × β) → List (α × β)
  | [] => [(a, v)]
  | p :: m => if a = p.1 then (a, v) :: m else p :: upR a v m
def gtR (a : α) : List (α × β) → Option β
  | [] => none
  | p :: m => if a = p.1 then some p.2 else gtR a m
theorem fG_shift (a : α) : ∀ (m : List (α × β)) (i : Nat), fG m a (i + 1) = (fG m a i).map fun p => (p.1 + 1, p.2)
  | [], _ => rfl
  | p :: m, i => by
    unfold fG
    split
    · rfl
    · exact fG_shift a m (i + 1)
theorem gtG_eq (a : α) : ∀ (m : List (α × β)), gtG m a = gtR a m
  | [] => rfl
  | p :: m => by
    unfold gtG fG gtR
    split
    · rfl
    · rw [fG_shift, ← gtG_eq a m]
      unfold gtG
      cases fG m a 0 <;> rfl
theorem upG_eq (a : α) (v : β) : ∀ (m : List (α × β)), upG m a v = upR a v m
  | [] => rfl
  | p :: m => by
    have ih := upG_eq a v m
    unfold upG fG upR
    by_cases q : a = p.1
    · simp [q]
    · simp only [if_neg q]
      rw [fG_shift, ← ih]
      unfold upG
      cases fG m a 0 <;> rfl
theorem gtR_upR (a : α) (v : β) (b : α) : ∀ (m : List (α × β)), gtR b (upR a v m) = if b = a then some v else gtR b m
  | [] => by
    unfold upR gtR
    split <;> rfl
  | p :: m => by
    unfold upR
    split
    · rename_i e
      unfold gtR
      by_cases q : b = a
      · simp [q]
      · rw [if_neg q, if_neg q, if_neg (by rw [← e]; exact q)]
    · rename_i e
      rw [gtR, gtR_upR a v b m]
      by_cases q : b = a
      · subst q; rw [if_neg e, if_pos rfl, if_pos rfl]
      · rw [if_neg q, if_neg q, ← gtR]
end
def gI (m : List (Int × Int)) (b : Int) : Int := (gtG m b).getD 0
theorem gI_up (m : List (Int × Int)) (a v b : Int) : gI (upG m a v) b = if b = a then v else gI m b := by
  unfold gI
  rw [gtG_eq, gtG_eq, upG_eq, gtR_upR]
  split <;> rfl
section
variable {rd : Option Nat} {P : Program} {ops : Array Oper} {Q : Exit → Act → World → Prop} {N : Nat} {ds : List Deferred} {rest : List Oper} {L : Slots} {w : World}
variable {d : Nat} {ty : TypeId} {pos : String} {aft : Array Edge} {g : Option (Nat × Bool)}
end
theorem tonP_le {b : Int} : ∀ {c : List Crg}, (∀ x ∈ c, 0 ≤ x.t) → 0 ≤ tonP b c ∧ tonP b c ≤ tonP 0 c
  | [], _ => by simp [tonP]
  | x :: c, h => by
    have h1 := tonP_le (b := b) (c := c) (fun y hy => h y (List.mem_cons_of_mem _ hy))
    have h2 := h x List.mem_cons_self
    simp only [tonP, true_or, if_true]
    split <;> omega
theorem tonP_next {b : Int} {c : List Crg} {k : Nat} (hk : k < c.length) : tonP b (c.take (k + 1)) = tonP b (c.take k) + (if b = 0 ∨ (nth c k).b = b then (nth c k).t else 0) := by
  rw [take_nth hk, tonP_snoc]
def allR (b : Int) (rs : List HR) : Int := allT b (rs.map HR.hul)
theorem allT_range {b : Int} : ∀ {l : List Hul}, (∀ h ∈ l, (∀ x ∈ h.c, 0 ≤ x.t) ∧ tonP 0 h.c ≤ 100000) → 0 ≤ allT b l ∧ allT b l ≤ 100000 * (l.length : Int)
  | [], _ => by simp [allT]
  | h :: l, hh => by
    have h1 := allT_range (b := b) (l := l) (fun y hy => hh y (List.mem_cons_of_mem _ hy))
    have h2 := hh h List.mem_cons_self
    have h3 := tonP_le (b := b) h2.1
    simp only [allT, List.length_cons]; omega
/-- The tons in a map. -/
def MapT (m : List (Int × Int)) (F : Int → Int) : Prop := ∀ b, b ≠ 0 → gI m b = F b
theorem MapT.up {m : List (Int × Int)} {F G : Int → Int} {a v : Int} (h : MapT m F) (ha : v = G a) (hG : ∀ b, b ≠ 0 → b ≠ a → G b = F b) : MapT (upG m a v) G := fun b hb => by
  rw [gI_up]
  by_cases q : b = a
  · rw [if_pos q, q, ha]
  · rw [if_neg q, h b hb, hG b hb q]
theorem MapT.cg {m : List (Int × Int)} {A : Int → Int} {c : List Crg} {k : Nat} (h : MapT m (fun b => A b + tonP b (c.take k))) (hk : k < c.length) (hb : (nth c k).b ≠ 0) : MapT (upG m (nth c k).b (gI m (nth c k).b + (nth c k).t)) (fun b => A b + tonP b (c.take (k + 1))) := by
  refine h.up ?_ (fun b hb0 hn => ?_)
  · show _ = A _ + _
    rw [h _ hb, tonP_next hk, if_pos (.inr rfl)]
    show A _ + _ + _ = _
    omega
  · show A _ + _ = A _ + _
    rw [tonP_next hk, if_neg (fun q => q.elim hb0 (fun q => hn q.symm))]; omega
theorem CgOk.pos {T : Int} {c : List Crg} (h : CgOk T c) : ∀ x ∈ c, 0 ≤ x.t := fun x hx => by have := h.2 x hx; omega
theorem CgOk.at_ {T : Int} {c : List Crg} {k : Nat} (h : CgOk T c) (hk : k < c.length) : (1 ≤ (nth c k).b ∧ (nth c k).b ≤ 9999) ∧ (1 ≤ (nth c k).t ∧ (nth c k).t ≤ T) := h.2 _ (nth_mem hk)
theorem CgOk.sum {T : Int} {c : List Crg} (h : CgOk T c) (hT : 0 ≤ T ∧ T ≤ 1000000000) (b : Int) : 0 ≤ tonP b c ∧ tonP b c ≤ 10000000000000 := by
  suffices ∀ l : List Crg, (∀ x ∈ l, 0 ≤ x.t ∧ x.t ≤ 1000000000) → 0 ≤ tonP b l ∧ tonP b l ≤ 1000000000 * (l.length : Int) by
    have h1 := this c (fun x hx => by have := h.2 x hx; omega)
    have h2 := h.len
    omega
  intro l
  induction l with
  | nil => intro _; simp [tonP]
  | cons x l ih =>
    intro hl
    have h1 := ih (fun y hy => hl y (List.mem_cons_of_mem _ hy))
    have h2 := hl x List.mem_cons_self
    simp only [tonP, List.length_cons]
    split <;> omega
theorem SeaOk.hulls {T : Int} {V : SG} (h : SeaOk T V.st) (b : Int) (i : Nat) : 0 ≤ allR b (V.rs.take i) ∧ allR b (V.rs.take i) ≤ 100000 * (V.rs.length : Int) := by
  have h1 : ∀ y ∈ (V.rs.take i).map HR.hul, (∀ x ∈ y.c, 0 ≤ x.t) ∧ tonP 0 y.c ≤ 100000 := fun y hy => by
    obtain ⟨r, hr, rfl⟩ := List.mem_map.1 hy
    have h2 := h.hul (HR.hul r) (List.mem_map.2 ⟨r, List.mem_of_mem_take hr, rfl⟩)
    exact ⟨h2.2.2.1.pos, h2.2.2.2⟩
  have h3 := allT_range (b := b) h1
  unfold allR
  rw [List.length_map, List.length_take] at h3
  omega
/-! ### a season: replays, one by one and all together -/
theorem runP_ok_sea : ∀ {l : List Ent} {S : Sea} {i : Nat} {T : Int}, SeaOk T S → T + 100000 * (l.length : Int) ≤ 1000000000 → (runP S i l).1 = 0 → SeaOk (T + 100000 * (l.length : Int)) (runP S i l).2.2
  | [], S, i, T, h, _, _ => by
    show SeaOk (T + 100000 * ((0 : Nat) : Int)) S
    rwa [show T + 100000 * ((0 : Nat) : Int) = T by omega]
  | x :: l, S, i, T, h, hT, h0 => by
    rw [List.length_cons] at hT ⊢
    by_cases hx : (stepP S x).1 = 0
    · rw [runP_ok hx] at h0 ⊢
      have h1 := runP_ok_sea (h.step (by omega) hx) (by omega) h0
      rwa [show T + 100000 + 100000 * (l.length : Int) = T + 100000 * ((l.length + 1 : Nat) : Int) by omega] at h1
    · exfalso
      have e : runP S i (x :: l) = ((stepP S x).1, i, S) := by
        show (if (stepP S x).1 = 0 then _ else _) = _
        rw [if_neg hx]
      rw [e] at h0
      exact hx h0
theorem seaOk_zero : SeaOk 0 zSea := ⟨asc_nil, fun h hh => (by cases hh), CgOk.nil _, CgOk.nil _, by decide, by decide, by decide⟩
/-- Replay, the state's parts one by one. -/
theorem Rep_c (l : List Ent) (al : Option Addr) (bl ol cl : Nat) (V : SG) (T : Int) (w0 : World) (hl : Sl encEnt 6 w0 al bl ol l) (hll : l.length ≤ 1000000000) (hpos : 0 < w0.heap.size) (hI : SIn w0 V 0 0 0) (hok : SeaOk T V.st) (hT : T ≤ 500000000) :
    CallsV Tryz.prog 20 [.agg #[.int .i64 V.m, .slice V.ah V.rs.length V.ch, .slice V.al V.ld.length V.cl, .slice V.au V.un.length V.cu, .int .i64 V.wk], .slice al l.length cl] w0 fun v w' => (∃ V9 : SG, v = .tuple #[.agg #[.int .i64 V9.m, .slice V9.ah V9.rs.length V9.ch, .slice V9.al V9.ld.length V9.cl, .slice V9.au V9.un.length V9.cu, .int .i64 V9.wk], .int .i64 ((repP V.st l).2.1 : Int), .int .i64 (repP V.st l).1] ∧ SIn w' V9 0 0 0 ∧ V9.st = (repP V.st l).2.2 ∧ SeaF w0.heap.size V9) ∧ Ext w0 w' :=
  Replay_c l al bl ol cl V 0 0 0 T w0 hl hll hpos hI hok hT
theorem Rep0_c (l : List Ent) (al : Option Addr) (bl ol cl : Nat) (w0 : World) (hl : Sl encEnt 6 w0 al bl ol l) (hll : l.length ≤ 1000000000) (hpos : 0 < w0.heap.size) :
    CallsV Tryz.prog 20 [.agg #[.int .i64 0, .slice none 0 0, .slice none 0 0, .slice none 0 0, .int .i64 0], .slice al l.length cl] w0 fun v w' => (∃ V9 : SG, v = .tuple #[.agg #[.int .i64 V9.m, .slice V9.ah V9.rs.length V9.ch, .slice V9.al V9.ld.length V9.cl, .slice V9.au V9.un.length V9.cu, .int .i64 V9.wk], .int .i64 ((repP zSea l).2.1 : Int), .int .i64 (repP zSea l).1] ∧ SIn w' V9 0 0 0 ∧ V9.st = (repP zSea l).2.2 ∧ SeaF w0.heap.size V9) ∧ Ext w0 w' :=
  Rep_c l al bl ol cl SG0 0 w0 hl hll hpos (SIn.zero hpos) seaOk_zero (by decide)
/-- A list with one entry that lies in a block of its own. -/
theorem Sl.one {x : Ent} {w : World} {b : Nat} (h : Blk w b 43 [.int .i64 x.m, .int .i64 x.k, .int .i64 x.h, .int .i64 x.p, .int .i64 x.b, .int .i64 x.t]) : Sl encEnt 6 w (some ⟨b, 0, none⟩) b 0 [x] := Sl.ofBlk (enc := encEnt) (k := 6) (xs := [x]) (fun _ => rfl) h
theorem SeaOk.parts {T : Int} {V : SG} (h : SeaOk T V.st) : V.rs.length ≤ 999 ∧ V.ld.length ≤ 9999 ∧ V.un.length ≤ 9999 ∧ ∀ r ∈ V.rs, r.c.length ≤ 9999 := ⟨h.rlen, h.ld.len, h.un.len, fun r hr => (h.rhul r hr).2.2.1.len⟩
theorem Bal.at_ {V : SG} (h : Bal V.st) (b : Int) : allR b V.rs + tonP b V.un = tonP b V.ld := h b
theorem Sl.dropN {α : Type} [Inhabited α] {enc : α → List Value} {k : Nat} {w : World} {ao : Option Addr} {b o cap l : Nat} {xs : List α} (h : Sl enc k w ao b o xs) (hc : xs.length ≤ cap) : Sl enc k w (subAddr ao cap l k) b (o + l * k) (xs.drop l) := by
  have h1 := h.sub cap l (xs.length - l) hc
  rwa [List.take_of_length_le (by rw [List.length_drop]; omega)] at h1
theorem Sl.takeN {α : Type} [Inhabited α] {enc : α → List Value} {k : Nat} {w : World} {ao : Option Addr} {b o cap n : Nat} {xs : List α} (h : Sl enc k w ao b o xs) (hc : xs.length ≤ cap) : Sl enc k w (subAddr ao cap 0 k) b o (xs.take n) := by
  have h1 := h.sub cap 0 n hc
  rwa [Nat.zero_mul, Nat.add_zero, List.drop_zero] at h1
theorem entries_c (l : List Ent) (al : Option Addr) (bl ol cl : Nat) (w0 : World) (hl : Sl encEnt 6 w0 al bl ol l) (hll : l.length ≤ 1000000) (hpos : 0 < w0.heap.size) :
    CallsV Tryz.prog 14 [.slice al l.length cl] w0 (fun v w' => (∃ ao g cp, v = .slice ao (List.length l) cp ∧ Acc encEnt 6 43 w0.heap.size w' ao g cp l) ∧ Ext w0 w') := by
 refine f_n func14 ?_
 refine go ?_
 refine x_l fun bk3 w4 ebk3 sbk3 B5 u6 => ?_
 refine go ?_
 refine t_copy (enc := encEnt) (z := .agg #[.int .i64 0, .int .i64 0, .int .i64 0, .int .i64 0, .int .i64 0, .int .i64 0]) (bytes := 48) (k := 6) (ys := l) underlying22 (by kernel_rfl) rfl (by decide) (fun _ => rfl) (by intro x; simp [encEnt, Value.oneCell']) rfl rfl rfl rfl B5 (hl.keep ((Upd.refl (fun _ => False) w0).nx u6) (fun _ h => h)) (by omega) (by decide) (fun ao8 gb9 cp10 w11 A12 u13 gegb9 => ?_)
 have zu13 := u13.size
 have lt_gb9 := A12.lt
 refine go ?_
 refine f_1 results14 ?_
 obtain ⟨gz, hz⟩ := Acc.lower (base' := w0.heap.size) A12 (by omega) hpos
 exact ⟨⟨_, gz, _, rfl, hz⟩, u_d⟩

end Go.Proofs.YtjdcpnaocjddoaaGreatDoor
namespace Go.Proofs.YtjdcpnaocjddoaaGreatDoor
open Go Go.RowKit Go.Proofs.Tryz
theorem rIn_c (n a b : Int) (w0 : World) :
    CallsV Tryz.prog 97 [.int .i64 n, .int .i64 a, .int .i64 b] w0 (fun v w' => v = .bool (decide (a ≤ n ∧ n ≤ b)) ∧ Ext w0 w') := by
 refine f_n func97 ?_
 refine go ?_
 refine t_splitp 10 rfl (fun g10 => ?_) (fun g10 => ?_)
 ·
  refine go ?_
  refine f_1 results97 ?_
  exact ⟨congrArg Value.bool (by first | exact (decide_eq_false (by omega)).symm | exact (decide_eq_true (by omega)).symm | exact decide_eq_decide.2 (by omega)), u_d⟩
 refine go ?_
 refine f_1 results97 ?_
 exact ⟨congrArg Value.bool (by first | exact (decide_eq_false (by omega)).symm | exact (decide_eq_true (by omega)).symm | exact decide_eq_decide.2 (by omega)), u_d⟩

set_option maxHeartbeats 4000000 in
theorem rEntry_c (x : Ent) (w0 : World) :
    CallsV Tryz.prog 52 [.agg #[.int .i64 x.m, .int .i64 x.k, .int .i64 x.h, .int .i64 x.p, .int .i64 x.b, .int .i64 x.t]] w0 (fun v w' => v = .bool (okEnt x) ∧ Ext w0 w') := by
 refine f_n func52 ?_
 refine go ?_
 refine x_b fun bk2 w3 ebk2 sbk2 B4 u5 => ?_
 refine go ?_
 refine x_c func97 rfl rfl (rIn_c x.m 0 1000000 _) ?_
 rintro _ w10 ⟨rfl, u11⟩ zu11
 refine go ?_
 refine t_splitp 7 rfl (fun g7 => ?_) (fun g7 => ?_)
 ·
  refine go ?_
  refine f_1 results52 ?_
  exact ⟨congrArg Value.bool (by unfold okEnt; first | exact (decide_eq_false (by omega)).symm | exact (decide_eq_true (by omega)).symm | exact decide_eq_decide.2 (by omega)), u_d⟩
 refine go ?_
 refine x_c func97 rfl rfl (rIn_c x.h 1 999 _) ?_
 rintro _ w16 ⟨rfl, u17⟩ zu17
 refine go ?_
 refine q_p (fun g12 => ?_) fun g12 => ?_
 ·
  refine go ?_
  refine f_1 results52 ?_
  exact ⟨congrArg Value.bool (by unfold okEnt; first | exact (decide_eq_false (by omega)).symm | exact (decide_eq_true (by omega)).symm | exact decide_eq_decide.2 (by omega)), u_d⟩
 refine go ?_
 refine t_splitp 16 rfl (fun g16 => ?_) (fun g16 => ?_)
 ·
  refine go ?_
  refine x_c func97 rfl rfl (rIn_c x.p 0 100000 _) ?_
  rintro _ w25 ⟨rfl, u26⟩ zu26
  refine go ?_
  refine t_splitp 24 rfl (fun g24 => ?_) (fun g24 => ?_)
  ·
   refine go ?_
   refine t_splitp 29 rfl (fun g29 => ?_) (fun g29 => ?_)
   ·
    refine go ?_
    refine f_1 results52 ?_
    exact ⟨congrArg Value.bool (by unfold okEnt; first | exact (decide_eq_false (by omega)).symm | exact (decide_eq_true (by omega)).symm | exact decide_eq_decide.2 (by omega)), u_d⟩
   refine go ?_
   refine f_1 results52 ?_
   exact ⟨congrArg Value.bool (by unfold okEnt; first | exact (decide_eq_false (by omega)).symm | exact (decide_eq_true (by omega)).symm | exact decide_eq_decide.2 (by omega)), u_d⟩
  refine go ?_
  refine f_1 results52 ?_
  exact ⟨congrArg Value.bool (by unfold okEnt; first | exact (decide_eq_false (by omega)).symm | exact (decide_eq_true (by omega)).symm | exact decide_eq_decide.2 (by omega)), u_d⟩
 refine go ?_
 refine q_p (fun g20 => ?_) fun g20 => ?_
 ·
  refine go ?_
  refine x_c func97 rfl rfl (rIn_c x.p 0 100000 _) ?_
  rintro _ w31 ⟨rfl, u32⟩ zu32
  refine go ?_
  refine t_splitp 24 rfl (fun g24 => ?_) (fun g24 => ?_)
  ·
   refine go ?_
   refine t_splitp 29 rfl (fun g29 => ?_) (fun g29 => ?_)
   ·
    refine go ?_
    refine f_1 results52 ?_
    exact ⟨congrArg Value.bool (by unfold okEnt; first | exact (decide_eq_false (by omega)).symm | exact (decide_eq_true (by omega)).symm | exact decide_eq_decide.2 (by omega)), u_d⟩
   refine go ?_
   refine f_1 results52 ?_
   exact ⟨congrArg Value.bool (by unfold okEnt; first | exact (decide_eq_false (by omega)).symm | exact (decide_eq_true (by omega)).symm | exact decide_eq_decide.2 (by omega)), u_d⟩
  refine go ?_
  refine f_1 results52 ?_
  exact ⟨congrArg Value.bool (by unfold okEnt; first | exact (decide_eq_false (by omega)).symm | exact (decide_eq_true (by omega)).symm | exact decide_eq_decide.2 (by omega)), u_d⟩
 refine go ?_
 refine t_splitp 37 rfl (fun g37 => ?_) (fun g37 => ?_)
 ·
  refine go ?_
  refine t_splitp 47 rfl (fun g47 => ?_) (fun g47 => ?_)
  ·
   refine go ?_
   refine x_c func97 rfl rfl (rIn_c x.b 1 9999 _) ?_
   rintro _ w37 ⟨rfl, u38⟩ zu38
   refine go ?_
   refine t_splitp 52 rfl (fun g52 => ?_) (fun g52 => ?_)
   ·
    refine go ?_
    refine x_c func97 rfl rfl (rIn_c x.t 1 100000 _) ?_
    rintro _ w42 ⟨rfl, u43⟩ zu43
    refine go ?_
    refine f_1 results52 ?_
    exact ⟨congrArg Value.bool (by unfold okEnt; first | exact (decide_eq_false (by omega)).symm | exact (decide_eq_true (by omega)).symm | exact decide_eq_decide.2 (by omega)), u_d⟩
   refine go ?_
   refine f_1 results52 ?_
   exact ⟨congrArg Value.bool (by unfold okEnt; first | exact (decide_eq_false (by omega)).symm | exact (decide_eq_true (by omega)).symm | exact decide_eq_decide.2 (by omega)), u_d⟩
  refine go ?_
  refine f_1 results52 ?_
  exact ⟨congrArg Value.bool (by unfold okEnt; first | exact (decide_eq_false (by omega)).symm | exact (decide_eq_true (by omega)).symm | exact decide_eq_decide.2 (by omega)), u_d⟩
 refine go ?_
 refine t_splitp 42 rfl (fun g42 => ?_) (fun g42 => ?_)
 ·
  refine go ?_
  refine t_splitp 47 rfl (fun g47 => ?_) (fun g47 => ?_)
  ·
   refine go ?_
   refine x_c func97 rfl rfl (rIn_c x.b 1 9999 _) ?_
   rintro _ w47 ⟨rfl, u48⟩ zu48
   refine go ?_
   refine t_splitp 52 rfl (fun g52 => ?_) (fun g52 => ?_)
   ·
    refine go ?_
    refine x_c func97 rfl rfl (rIn_c x.t 1 100000 _) ?_
    rintro _ w52 ⟨rfl, u53⟩ zu53
    refine go ?_
    refine f_1 results52 ?_
    exact ⟨congrArg Value.bool (by unfold okEnt; first | exact (decide_eq_false (by omega)).symm | exact (decide_eq_true (by omega)).symm | exact decide_eq_decide.2 (by omega)), u_d⟩
   refine go ?_
   refine f_1 results52 ?_
   exact ⟨congrArg Value.bool (by unfold okEnt; first | exact (decide_eq_false (by omega)).symm | exact (decide_eq_true (by omega)).symm | exact decide_eq_decide.2 (by omega)), u_d⟩
  refine go ?_
  refine f_1 results52 ?_
  exact ⟨congrArg Value.bool (by unfold okEnt; first | exact (decide_eq_false (by omega)).symm | exact (decide_eq_true (by omega)).symm | exact decide_eq_decide.2 (by omega)), u_d⟩
 refine go ?_
 refine f_1 results52 ?_
 exact ⟨congrArg Value.bool (by unfold okEnt; first | exact (decide_eq_false (by omega)).symm | exact (decide_eq_true (by omega)).symm | exact decide_eq_decide.2 (by omega)), u_d⟩

end Go.Proofs.YtjdcpnaocjddoaaGreatDoor
namespace Go.Proofs.YtjdcpnaocjddoaaGreatDoor
open Go Go.RowKit Go.Proofs.Tryz
end Go.Proofs.YtjdcpnaocjddoaaGreatDoor
namespace Go.Proofs.YtjdcpnaocjddoaaGreatDoor
open Go Go.RowKit
/-! ### a log's closed form: chunks of 240 digits, blocks out of them, groups of four blocks and their parity -/
/-! groups -/
/-! digits of bytes -/
/-! the bytes of all chunks -/
/-! ### the reference's Data and Write -/
/-! the reference's Write: groups of up to four -/
/-! the reference's Bits -/
end Go.Proofs.YtjdcpnaocjddoaaGreatDoor
namespace Go.Proofs.YtjdcpnaocjddoaaGreatDoor
open Go Go.RowKit Go.Proofs.Tryz
theorem eqIn43 (n : Nat) (a0 : Int) (a1 : Int) (a2 : Int) (a3 : Int) (a4 : Int) (a5 : Int) (b0 : Int) (b1 : Int) (b2 : Int) (b3 : Int) (b4 : Int) (b5 : Int) (w : World) : (Op.equalIn (n + 2) 43 (.agg #[.int .i64 a0, .int .i64 a1, .int .i64 a2, .int .i64 a3, .int .i64 a4, .int .i64 a5]) (.agg #[.int .i64 b0, .int .i64 b1, .int .i64 b2, .int .i64 b3, .int .i64 b4, .int .i64 b5])).run Tryz.prog w = .ok (decide (a0 = b0) && decide (a1 = b1) && decide (a2 = b2) && decide (a3 = b3) && decide (a4 = b4) && decide (a5 = b5)) w := by
  have hS : Tryz.prog.underlying 43 = some (.struct (Tryz.prog.fieldsOf 43)) := by kernel_rfl
  have hp : Tryz.prog.stoodInHeld 43 = false := by kernel_rfl
  have p0 : ∀ (a0 : Int) (a1 : Int) (a2 : Int) (a3 : Int) (a4 : Int) (a5 : Int), (part 3 #[.int .i64 a0, .int .i64 a1, .int .i64 a2, .int .i64 a3, .int .i64 a4, .int .i64 a5] 0).run Tryz.prog w = .ok (.int .i64 a0) w := fun _ _ _ _ _ _ => by simp [part, isAgg3]
  have p1 : ∀ (a0 : Int) (a1 : Int) (a2 : Int) (a3 : Int) (a4 : Int) (a5 : Int), (part 41 #[.int .i64 a0, .int .i64 a1, .int .i64 a2, .int .i64 a3, .int .i64 a4, .int .i64 a5] 1).run Tryz.prog w = .ok (.int .i64 a1) w := fun _ _ _ _ _ _ => by simp [part, isAgg41]
  have p2 : ∀ (a0 : Int) (a1 : Int) (a2 : Int) (a3 : Int) (a4 : Int) (a5 : Int), (part 3 #[.int .i64 a0, .int .i64 a1, .int .i64 a2, .int .i64 a3, .int .i64 a4, .int .i64 a5] 2).run Tryz.prog w = .ok (.int .i64 a2) w := fun _ _ _ _ _ _ => by simp [part, isAgg3]
  have p3 : ∀ (a0 : Int) (a1 : Int) (a2 : Int) (a3 : Int) (a4 : Int) (a5 : Int), (part 3 #[.int .i64 a0, .int .i64 a1, .int .i64 a2, .int .i64 a3, .int .i64 a4, .int .i64 a5] 3).run Tryz.prog w = .ok (.int .i64 a3) w := fun _ _ _ _ _ _ => by simp [part, isAgg3]
  have p4 : ∀ (a0 : Int) (a1 : Int) (a2 : Int) (a3 : Int) (a4 : Int) (a5 : Int), (part 3 #[.int .i64 a0, .int .i64 a1, .int .i64 a2, .int .i64 a3, .int .i64 a4, .int .i64 a5] 4).run Tryz.prog w = .ok (.int .i64 a4) w := fun _ _ _ _ _ _ => by simp [part, isAgg3]
  have p5 : ∀ (a0 : Int) (a1 : Int) (a2 : Int) (a3 : Int) (a4 : Int) (a5 : Int), (part 3 #[.int .i64 a0, .int .i64 a1, .int .i64 a2, .int .i64 a3, .int .i64 a4, .int .i64 a5] 5).run Tryz.prog w = .ok (.int .i64 a5) w := fun _ _ _ _ _ _ => by simp [part, isAgg3]
  have e3 := fun a b w => equal_i64 underlying3 (n + 0) a b w
  have e41 := fun a b w => equal_i64 underlying41 (n + 0) a b w
  rw [run_equalIn_struct w (n + 1) 43 _ _ hS hp]
  simp only [Program.fieldsOf, underlying43]
  simp only [Op.eqFields, Sem.run_bind, Sem.run_ite, p0, p1, p2, p3, p4, p5, e3, e41, Result.andThen_ok]
  by_cases h0 : a0 = b0 <;> by_cases h1 : a1 = b1 <;> by_cases h2 : a2 = b2 <;> by_cases h3 : a3 = b3 <;> by_cases h4 : a4 = b4 <;> by_cases h5 : a5 = b5 <;> simp [h0, h1, h2, h3, h4, h5]

instance : DecidableEq Ent := fun a b => if h : a.m = b.m ∧ a.k = b.k ∧ a.h = b.h ∧ a.p = b.p ∧ a.b = b.b ∧ a.t = b.t then isTrue (by cases a; cases b; simp at h; simp [h]) else isFalse (fun e => h (by rw [e]; exact ⟨rfl, rfl, rfl, rfl, rfl, rfl⟩))

theorem same_c (a b : List Ent) (aa : Option Addr) (ba oa ca : Nat) (ab : Option Addr) (bb ob cb : Nat) (w0 : World) (ha : Sl encEnt 6 w0 aa ba oa a) (hb : Sl encEnt 6 w0 ab bb ob b) (hal : a.length ≤ 1000000) :
    CallsV Tryz.prog 16 [.slice aa a.length ca, .slice ab b.length cb] w0 (fun v w' => v = .bool (decide (a = b)) ∧ Ext w0 w') := by
 refine f_n func16 ?_
 refine go ?_
 refine q_p (fun g10 => ?_) fun g10 => ?_
 ·
  refine go ?_
  refine f_1 results16 ?_
  exact ⟨congrArg Value.bool (decide_eq_false (fun e => g10 (by rw [e]))).symm, u_d⟩
 refine go ?_
 refine x_l1 (fun _ => False) [0, 1] (fun (j : Nat) => [(5, .int .i64 (j : Int))]) (fun j w => (j ≤ a.length) ∧ (a.take j = b.take j)) (fun j => a.length - j) 0 ⟨(Nat.zero_le _), rfl⟩ ?_
 rintro j w8 ⟨hj, he⟩ u9 zu9 K7 hK7
 refine go ?_
 refine q_p (fun g14 => ?_) fun g14 => ?_
 ·
  refine go ?_
  refine c_drawnM follows (fun _ => False) (OTl [0, 2, 4, 6, 8, 10, 12, 14, 16]) (by kernel_rfl) fun w15 u16 => ?_
  have zu16 := u16.size
  have E17 := Sc.mk (((Upd.refl (fun _ => False) w0).nx u9).nx u16)
  refine go ?_
  refine y_i j (ha.keep E17.u (fun _ h => h)) (fun _ => ?_)
  refine go ?_
  refine y_i j (hb.keep E17.u (fun _ h => h)) (fun _ => ?_)
  refine go ?_
  refine y_neS (xs := [.int .i64 ((nth a j).m), .int .i64 ((nth a j).k), .int .i64 ((nth a j).h), .int .i64 ((nth a j).p), .int .i64 ((nth a j).b), .int .i64 ((nth a j).t)]) (ys := [.int .i64 ((nth b j).m), .int .i64 ((nth b j).k), .int .i64 ((nth b j).h), .int .i64 ((nth b j).p), .int .i64 ((nth b j).b), .int .i64 ((nth b j).t)]) (by kernel_rfl) (eqIn43 9998 ((nth a j).m) ((nth a j).k) ((nth a j).h) ((nth a j).p) ((nth a j).b) ((nth a j).t) ((nth b j).m) ((nth b j).k) ((nth b j).h) ((nth b j).p) ((nth b j).b) ((nth b j).t)) rfl rfl rfl rfl ?_
  refine go ?_
  refine q_b (fun g25 => ?_) fun g25 => ?_
  ·
   have hq : ¬ (nth a j = nth b j) := by
     cases ha : nth a j; cases hb : nth b j
     simp [ha, hb] at g25 ⊢
     omega
   refine go ?_
   refine f_1 results16 ?_
   exact ⟨congrArg Value.bool (decide_eq_false (nth_take_ne hq)).symm, u_d⟩
  have hq : (nth a j = nth b j) := by
    cases ha : nth a j; cases hb : nth b j
    simp [ha, hb] at g25 ⊢
    omega
  refine go ?_
  exact hK7 (j + 1) ⟨(by omega), (take_eq he (by omega) (by omega) hq)⟩
 refine go ?_
 refine f_1 results16 ?_
 have hab : a = b := by
   rw [List.take_of_length_le (by omega), List.take_of_length_le (by omega)] at he
   exact he
 exact ⟨congrArg Value.bool (decide_eq_true hab).symm, u_d⟩

end Go.Proofs.YtjdcpnaocjddoaaGreatDoor
namespace Go.Proofs.YtjdcpnaocjddoaaGreatDoor
open Go Go.RowKit Go.Proofs.Tryz
/-! ### the reference's states: lists of its own, nothing shared that is turned -/
structure RIn (base : Nat) (w : World) (V : SG) : Prop where
  ha : Acc encHR 3 46 base w V.ah V.gh V.ch V.rs
  ca : ∀ r ∈ V.rs, r.o = 0 ∧ Acc encCrg 2 48 base w r.ao r.g r.cp r.c
  la : Acc encCrg 2 48 base w V.al V.gl V.cl V.ld
  ua : Acc encCrg 2 48 base w V.au V.gu V.cu V.un
theorem RIn.ext {base : Nat} {w w' : World} {V : SG} (h : RIn base w V) (u : Ext w w') : RIn base w' V :=
  ⟨h.ha.keep u (fun _ h => h), fun r hr => ⟨(h.ca r hr).1, (h.ca r hr).2.keep u (fun _ h => h)⟩, h.la.keep u (fun _ h => h), h.ua.keep u (fun _ h => h)⟩
theorem RIn.sin {base : Nat} {w : World} {V : SG} (h : RIn base w V) : SIn w V 0 0 0 :=
  ⟨h.ha.sl (fun _ => rfl), fun r hr => by have q := h.ca r hr; rw [q.1]; exact q.2.sl (fun _ => rfl), h.la.sl (fun _ => rfl), h.ua.sl (fun _ => rfl)⟩
/-- The hulls' block is turned: all other lists are as they were. -/
theorem RIn.keepC {base : Nat} {w w' : World} {V : SG} (h : RIn base w V) (u : Upd (fun i => i = V.gh ∧ base ≤ i) w w') :
    (∀ r ∈ V.rs, r.o = 0 ∧ Acc encCrg 2 48 base w' r.ao r.g r.cp r.c) ∧ Acc encCrg 2 48 base w' V.al V.gl V.cl V.ld ∧ Acc encCrg 2 48 base w' V.au V.gu V.cu V.un :=
  ⟨fun r hr => ⟨(h.ca r hr).1, (h.ca r hr).2.keep u (fun hb hs => (h.ca r hr).2.neA h.ha (by decide) hb (hs.1 ▸ hs.2) hs.1)⟩, h.la.keep u (fun hb hs => h.la.neA h.ha (by decide) hb (hs.1 ▸ hs.2) hs.1), h.ua.keep u (fun hb hs => h.ua.neA h.ha (by decide) hb (hs.1 ▸ hs.2) hs.1)⟩
theorem ca_set {base : Nat} {w : World} {rs : List HR} {k : Nat} {q : HR} (h : ∀ r ∈ rs, r.o = 0 ∧ Acc encCrg 2 48 base w r.ao r.g r.cp r.c) (hq : q.o = 0 ∧ Acc encCrg 2 48 base w q.ao q.g q.cp q.c) : ∀ r ∈ rs.set k q, r.o = 0 ∧ Acc encCrg 2 48 base w r.ao r.g r.cp r.c := fun r hr => by
  rcases mem_set hr with rfl | ⟨j, hj, _, rfl⟩
  · exact hq
  · exact h _ (nth_mem hj)
theorem ca_ins {base : Nat} {w : World} {rs : List HR} {k : Nat} {q : HR} (h : ∀ r ∈ rs, r.o = 0 ∧ Acc encCrg 2 48 base w r.ao r.g r.cp r.c) (hq : q.o = 0 ∧ Acc encCrg 2 48 base w q.ao q.g q.cp q.c) : ∀ r ∈ rs.take k ++ q :: rs.drop k, r.o = 0 ∧ Acc encCrg 2 48 base w r.ao r.g r.cp r.c := fun r hr => by
  rcases List.mem_append.1 hr with hr | hr
  · exact h _ (List.mem_of_mem_take hr)
  · rcases List.mem_cons.1 hr with rfl | hr
    · exact hq
    · exact h _ (List.mem_of_mem_drop hr)
/-- Copied hulls: what is turned is the copy's own. -/
theorem cs_keep {base : Nat} {w w' : World} {rs xs : List HR} {ao : Option Addr} {g cp b3 : Nat} {cells : List Value} {S : Nat → Prop} (h : ∀ r ∈ rs, r.o = 0 ∧ Acc encCrg 2 48 base w r.ao r.g r.cp r.c) (hH : Acc encHR 3 46 base w ao g cp xs) (hb3 : Blk w b3 37 cells) (u : Upd S w w') (hS : ∀ i, S i → i = b3 ∨ (i = g ∧ base ≤ i)) : ∀ r ∈ rs, r.o = 0 ∧ Acc encCrg 2 48 base w' r.ao r.g r.cp r.c := fun r hr =>
  ⟨(h r hr).1, (h r hr).2.keep u (fun hb hs => by
    rcases hS _ hs with e | ⟨e, e2⟩
    · exact (h r hr).2.neB hb3 (by decide) hb e
    · exact (h r hr).2.neA hH (by decide) hb (e ▸ e2) e)⟩
theorem ca_snoc {base : Nat} {w : World} {rs : List HR} {q : HR} (h : ∀ r ∈ rs, r.o = 0 ∧ Acc encCrg 2 48 base w r.ao r.g r.cp r.c) (hq : q.o = 0 ∧ Acc encCrg 2 48 base w q.ao q.g q.cp q.c) : ∀ r ∈ rs ++ [q], r.o = 0 ∧ Acc encCrg 2 48 base w r.ao r.g r.cp r.c := fun r hr => by
  rcases List.mem_append.1 hr with hr | hr
  · exact h _ hr
  · rw [List.mem_singleton.1 hr]; exact hq
theorem book_lt {bill tons : Int} {x : Crg} {r : List Crg} (h : x.b < bill) : bookP bill tons (x :: r) = x :: bookP bill tons r := by
  show (if x.b < bill then _ else _) = _
  rw [if_pos h]
theorem book_eq {bill tons : Int} {x : Crg} {r : List Crg} (h : x.b = bill) : bookP bill tons (x :: r) = if x.t + tons = 0 then r else ⟨bill, x.t + tons⟩ :: r := by
  show (if x.b < bill then _ else _) = _
  rw [if_neg (by omega), if_pos h]
theorem book_gt {bill tons : Int} {x : Crg} {r : List Crg} (h : bill < x.b) (ht : tons ≠ 0) : bookP bill tons (x :: r) = ⟨bill, tons⟩ :: x :: r := by
  show (if x.b < bill then _ else _) = _
  rw [if_neg (by omega), if_neg (by omega), if_neg ht]
theorem book_nil {bill tons : Int} (ht : tons ≠ 0) : bookP bill tons [] = [⟨bill, tons⟩] := by
  show (if tons = 0 then _ else _) = _
  rw [if_neg ht]
def bookR (d : Bool) (bill tons : Int) (l : List Crg) : List Crg := if d = true then l else bookP bill tons l
theorem stp2 {S : Sea} {x : Ent} (h : okEnt x = false) : stepP S x = (2, S) := by unfold stepP; rw [if_pos h]
theorem stp9 {S : Sea} {x : Ent} (h : okEnt x = true) (hm : x.m < S.m) : stepP S x = (9, S) := by unfold stepP; rw [if_neg (by rw [h]; decide), if_pos hm]
theorem stpK {V : SG} {x : Ent} {a : Nat} (hp : posK (fun x : HR => x.n) x.h V.rs = a) : isK (fun h : Hul => h.n) x.h V.st.hs = decide (a < V.rs.length ∧ (nth V.rs a).n = x.h) ∧ posK (fun h : Hul => h.n) x.h V.st.hs = a := by
  refine ⟨?_, (posK_map HR.hul (fun h : Hul => h.n) x.h V.rs).trans hp⟩
  rw [show isK (fun h : Hul => h.n) x.h V.st.hs = isK (fun x : HR => x.n) x.h V.rs from isK_map HR.hul (fun h : Hul => h.n) x.h V.rs]
  unfold isK
  rw [hp]
theorem stpB {V : SG} {x : Ent} {a : Nat} (h : okEnt x = true) (hm : ¬ x.m < V.m) (hk : x.k = 1) (hp : posK (fun x : HR => x.n) x.h V.rs = a) : stepP V.st x = if a < V.rs.length ∧ (nth V.rs a).n = x.h then (6, V.st) else (0, { V.st with hs := V.st.hs.take a ++ (⟨x.h, x.p, []⟩ : Hul) :: V.st.hs.drop a }) := by
  have hq := stpK hp
  unfold stepP buildP
  rw [if_neg (by rw [h]; decide), if_neg (show ¬ x.m < V.st.m from hm), if_pos hk, hq.1, hq.2]
  by_cases q : a < V.rs.length ∧ (nth V.rs a).n = x.h
  · rw [if_pos (decide_eq_true q), if_pos q]
  · rw [if_neg (by rw [decide_eq_false q]; decide), if_neg q]
theorem stp7 {V : SG} {x : Ent} {a : Nat} (h : okEnt x = true) (hm : ¬ x.m < V.m) (hk : x.k ≠ 1) (hp : posK (fun x : HR => x.n) x.h V.rs = a) (hn : ¬ (a < V.rs.length ∧ (nth V.rs a).n = x.h)) : stepP V.st x = (7, V.st) := by
  have hq := stpK hp
  unfold stepP
  rw [if_neg (by rw [h]; decide), if_neg (show ¬ x.m < V.st.m from hm), if_neg hk, hq.1, if_neg (by rw [decide_eq_false hn]; decide)]
theorem stpD {V : SG} {x : Ent} {a : Nat} (h : okEnt x = true) (hm : ¬ x.m < V.m) (hk : x.k ≠ 1) (hp : posK (fun x : HR => x.n) x.h V.rs = a) (hn : a < V.rs.length ∧ (nth V.rs a).n = x.h) : stepP V.st x = if x.k = 2 then loadP V.st a x else if x.k = 3 then sailP V.st a x else unloadP V.st a x := by
  have hq := stpK hp
  unfold stepP
  rw [if_neg (by rw [h]; decide), if_neg (show ¬ x.m < V.st.m from hm), if_neg hk, hq.1, if_pos (decide_eq_true hn), hq.2]
section
variable {rd : Option Nat} {P : Program} {ops : Array Oper} {Q : Exit → Act → World → Prop} {N : Nat} {ds : List Deferred} {rest : List Oper} {L : Slots} {w : World}
variable {d : Nat} {ty : TypeId} {pos : String} {aft : Array Edge} {g : Option (Nat × Bool)}
/-- append([]E{}, x...): where the copy lies. -/
theorem t_copyG {α : Type} [Inhabited α] {enc : α → List Value} {k : Nat} {t e : TypeId} {z : Value} {bytes bk : Nat} {s x : Operand} {ay : Option Addr} {b o c : Nat} {ys : List α}
    (hu : P.underlying t = some (.slice e)) (hi : (P.info? e).map (fun i => (i.zero, i.size, i.bytes)) = some (some z, k, bytes)) (hz : z.cells.size = k) (hk0 : 0 < k) (hk : ∀ x, (enc x).length = k) (h1 : ∀ x, ∀ u ∈ enc x, u.oneCell' = true)
    (hg : grd ops L g = true) (hN : Nat.blt d N = true) (hs : ev L s = some (.slice (some ⟨bk, 0, none⟩) 0 0)) (hx : ev L x = some (.slice ay ys.length c))
    (hB : Blk w bk e []) (hb : Sl enc k w ay b o ys) (hlen2 : ys.length ≤ 1000000) (hbytes : bytes ≤ 1000)
    (h : ∀ ao' g' cap' w', Acc enc k e bk w' ao' g' cap' ys → Upd (fun i => i = bk ∧ bk ≤ i) w w' → g' = bk ∨ w.heap.size ≤ g' → WL rd P ops Q N ds rest ((d, .slice ao' ys.length cap') :: L) w') :
    WL rd P ops Q N ds (⟨some d, .call ⟨.builtin .append, #[s, x], #[t, t]⟩, ty, pos, aft, g⟩ :: rest) L w := by
  have hl := hB.lt
  exact t_appendAll (xs := ([] : List α)) (gb := bk) (cap := 0) (base := bk) hu hi hz hk0 hk h1 hg hN hs hx (Acc.lit enc k hB (Nat.le_refl _)) hb (Nat.le_of_lt hl) (by simp) hlen2 hbytes
    fun ao' g' cap' w' ha hu' hg' _ => h ao' g' cap' w' ha hu' hg'
end
theorem rTons_c (l : List Crg) (al : Option Addr) (bl ol cl : Nat) (bill : Int) (w0 : World) (hl : Sl encCrg 2 w0 al bl ol l) (hll : l.length ≤ 9999) (hlt : ∀ y ∈ l, 0 ≤ y.t ∧ y.t ≤ 1000000000000) :
    CallsV Tryz.prog 105 [.slice al l.length cl, .int .i64 bill] w0 (fun v w' => v = .int .i64 (tonP bill l) ∧ Ext w0 w') := by
 refine f_n func105 ?_
 refine go ?_
 refine x_l1 (fun _ => False) [0, 1] (fun (k : Nat) => [(5, .int .i64 (tonP bill (l.take k))), (6, .int .i64 (k : Int))]) (fun k w => (k ≤ l.length)) (fun k => l.length - k) 0 (Nat.zero_le _) ?_
 rintro k w6 hk u7 zu7 K5 hK5
 have E8 := Sc.mk ((Upd.refl (fun _ => False) w0).nx u7)
 refine go ?_
 refine q_p (fun g10 => ?_) fun g10 => ?_
 ·
  have hxk := hlt _ (nth_mem (show k < l.length by omega))
  have htr := tonP_range (bill := bill) (l := l.take k) (fun y hy => hlt y (List.mem_of_mem_take hy))
  have htl : (l.take k).length = k := by rw [List.length_take]; omega
  iterate 4 refine st1 ?_
  refine x_k1 (fun _ => False) [0, 1, 5, 6] (fun (z9 : Bool) => [(23, .bool z9)]) (fun z9 w => (z9 = decide (bill = 0 ∨ (nth l k).b = bill))) (fun K16 hK16 => ?_) ?_
  ·
   refine go ?_
   refine t_splitp 15 rfl (fun g15 => ?_) (fun g15 => ?_)
   ·
    refine go ?_
    exact hK16 true (by first | exact (decide_eq_false (by omega)).symm | exact (decide_eq_true (by omega)).symm | exact decide_eq_decide.2 (by omega))
   refine go ?_
   refine g_i k (hl.keep E8.u (fun _ h => h)) (fun _ => ?_)
   refine go ?_
   exact hK16 (decide ((nth l k).b = bill)) (by first | exact (decide_eq_false (by omega)).symm | exact (decide_eq_true (by omega)).symm | exact decide_eq_decide.2 (by omega))
  rintro z9 w17 hz9 u18 zu18
  refine q_b (fun g23 => ?_) fun g23 => ?_
  ·
   have hzb : (bill = 0 ∨ (nth l k).b = bill) := by rw [hz9] at g23; exact of_decide_eq_true g23
   refine go ?_
   refine g_i k (hl.keep (E8.u.nx u18) (fun _ h => h)) (fun _ => ?_)
   refine go ?_
   exact hK5 (k + 1) (by omega) (hs := by exact ⟨(congrArg (fun z => some (Value.int .i64 z)) (by rw [take_nth (show k < l.length by omega), tonP_snoc]; first | (rw [if_pos hzb]; done) | (rw [if_neg hzb, Int.add_zero]; done))), rfl, rfl, rfl, trivial⟩)
  have hzb : ¬ (bill = 0 ∨ (nth l k).b = bill) := by rw [hz9] at g23; exact of_decide_eq_false g23
  refine go ?_
  exact hK5 (k + 1) (by omega) (hs := by exact ⟨(congrArg (fun z => some (Value.int .i64 z)) (by rw [take_nth (show k < l.length by omega), tonP_snoc]; first | (rw [if_pos hzb]; done) | (rw [if_neg hzb, Int.add_zero]; done))), rfl, rfl, rfl, trivial⟩)
 refine go ?_
 refine f_1 results105 ?_
 exact ⟨by rw [List.take_of_length_le (by omega)], u_d⟩

set_option maxHeartbeats 4000000 in
theorem radd_c (l : List Crg) (al : Option Addr) (bl ol cl : Nat) (bill tons : Int) (w0 : World) (hl : Sl encCrg 2 w0 al bl ol l) (hll : l.length ≤ 9999) (hlt : ∀ y ∈ l, 0 ≤ y.t ∧ y.t ≤ 1000000000000) (htn : tons ≠ 0) (htr : -1000000000 ≤ tons ∧ tons ≤ 1000000000) (hpos : 0 < w0.heap.size) :
    CallsV Tryz.prog 106 [.slice al l.length cl, .int .i64 bill, .int .i64 tons] w0 (fun v w' => (∃ a9 g9 c9, v = .slice a9 (List.length (bookP bill tons l)) c9 ∧ Acc encCrg 2 48 w0.heap.size w' a9 g9 c9 (bookP bill tons l)) ∧ Ext w0 w') := by
 refine f_n func106 ?_
 refine go ?_
 refine x_l fun bk3 w4 ebk3 sbk3 B5 u6 => ?_
 refine go ?_
 refine x_l4 (fun i => i = bk3 ∨ w4.heap.size ≤ i) [0, 1, 2] (fun (j : Nat) (dn : Bool) (o1 : List Crg) (q : (Option Addr × Nat × Nat)) => [(7, .slice q.1 o1.length q.2.2), (8, .bool dn), (9, .int .i64 (j : Int))]) (fun j dn o1 q w => (j ≤ l.length) ∧ (o1 ++ bookR dn bill tons (l.drop j) = bookP bill tons l) ∧ (Acc encCrg 2 48 bk3 w q.1 q.2.1 q.2.2 o1) ∧ (q.2.1 = bk3 ∨ w4.heap.size ≤ q.2.1) ∧ (o1.length ≤ 2 * j)) (fun j dn o1 q => l.length - j) 0 false ([]) (some ⟨bk3, 0, none⟩, bk3, 0) ⟨(Nat.zero_le _), rfl, (Acc.ofBlk (xs := ([] : List Crg)) encCrg 2 (fun _ => rfl) B5 (Nat.le_refl _) (by decide)), (.inl rfl), (Nat.zero_le _)⟩ ?_
 rintro j dn o1 q w11 ⟨hj, hbk, hA, hqW, hol⟩ u12 zu12 K10 hK10
 have E13 := Sc.mk (((Upd.refl (fun _ => False) w0).nx u6).next u12 (fun i hi h => by omega))
 have lt_q_2_1 := hA.lt
 have hgl := hA.lt
 refine go ?_
 refine q_p (fun g14 => ?_) fun g14 => ?_
 ·
  have hblt := hl.lt (by omega)
  have hxk := hlt _ (nth_mem (show j < l.length by omega))
  iterate 5 refine st1 ?_
  refine x_k1 (fun _ => False) [0, 1, 2, 7, 8, 9] (fun (z9 : Bool) => [(27, .bool z9)]) (fun z9 w => (z9 = (!dn && decide (bill ≤ (nth l j).b)))) (fun K22 hK22 => ?_) ?_
  ·
   refine go ?_
   refine t_split 19 rfl (fun g19 => ?_) (fun g19 => ?_)
   ·
    refine go ?_
    refine g_i j (hl.keep E13.u (fun _ h => h)) (fun _ => ?_)
    refine go ?_
    exact hK22 (decide (bill ≤ (nth l j).b)) (by rw [g19, Bool.true_and])
   refine go ?_
   exact hK22 false (by rw [g19]; rfl)
  rintro z9 w23 hz9 u24 zu24
  have E26 := Sc.mk (E13.u.nx u24)
  refine q_b (fun g27 => ?_) fun g27 => ?_
  ·
   have hz1 : dn = false ∧ bill ≤ (nth l j).b := by rw [hz9] at g27; simpa using g27
   refine go ?_
   refine g_i j (hl.keep E26.u (fun _ h => h)) (fun _ => ?_)
   refine go ?_
   refine q_p (fun g34 => ?_) fun g34 => ?_
   ·
    refine go ?_
    refine g_i j (hl.keep E26.u (fun _ h => h)) (fun _ => ?_)
    refine go ?_
    refine q_p (fun g42 => ?_) fun g42 => ?_
    ·
     refine go ?_
     refine g_i j (hl.keep E26.u (fun _ h => h)) (fun _ => ?_)
     refine go ?_
     refine x_l fun bk35 w36 ebk35 sbk35 B37 u38 => ?_
     have D40 := ((hA.keep u24 (fun _ h => h)).keep u38 (fun _ h => h))
     refine t_append (z := .agg #[.int .i64 0, .int .i64 0]) (bytes := 16) (k := 2) (base := bk3) (⟨bill, (nth l j).t + tons⟩ : Crg) underlying35 (by kernel_rfl) rfl (by decide) (fun _ => rfl) (by intro x; simp [encCrg, Value.oneCell']) rfl rfl rfl rfl D40 B37 (by omega) (by omega) (by decide) (fun ao41 gb42 cp43 w44 A45 u46 gegb42 lngb42 => ?_)
     have zu46 := u46.size
     have lt_gb42 := A45.lt
     refine go ?_
     exact hK10 (j + 1) true (o1 ++ [(⟨bill, (nth l j).t + tons⟩ : Crg)]) (ao41, gb42, cp43) ⟨(by omega), (by
           rw [← hbk, drop_nth (show j < l.length by omega)]; unfold bookR; rw [if_pos rfl, if_neg (by rw [hz1.1]; decide), book_eq g34, if_neg g42]; simp), A45, (show gb42 = bk3 ∨ w4.heap.size ≤ gb42 by omega), (by simp only [List.length_append, List.length_cons, List.length_nil]; omega)⟩
    refine go ?_
    have D48 := (hA.keep u24 (fun _ h => h))
    exact hK10 (j + 1) true o1 (q.1, q.2.1, q.2.2) ⟨(by omega), (by
          rw [← hbk, drop_nth (show j < l.length by omega)]; unfold bookR; rw [if_pos rfl, if_neg (by rw [hz1.1]; decide), book_eq g34, if_pos (by omega)]), D48, (show q.2.1 = bk3 ∨ w4.heap.size ≤ q.2.1 by omega), (by omega)⟩
   refine go ?_
   refine x_l fun bk49 w50 ebk49 sbk49 B51 u52 => ?_
   have D54 := ((hA.keep u24 (fun _ h => h)).keep u52 (fun _ h => h))
   refine t_append (z := .agg #[.int .i64 0, .int .i64 0]) (bytes := 16) (k := 2) (base := bk3) (⟨bill, tons⟩ : Crg) underlying35 (by kernel_rfl) rfl (by decide) (fun _ => rfl) (by intro x; simp [encCrg, Value.oneCell']) rfl rfl rfl rfl D54 B51 (by omega) (by omega) (by decide) (fun ao55 gb56 cp57 w58 A59 u60 gegb56 lngb56 => ?_)
   have zu60 := u60.size
   have lt_gb56 := A59.lt
   refine go ?_
   refine g_i j (hl.keep ((E26.u.nx u52).next u60 (fun i hi h => by omega)) (fun _ h => h)) (fun _ => ?_)
   refine go ?_
   refine x_l fun bk63 w64 ebk63 sbk63 B65 u66 => ?_
   have D68 := (A59.keep u66 (fun _ h => h))
   refine t_append (z := .agg #[.int .i64 0, .int .i64 0]) (bytes := 16) (k := 2) (base := bk3) (nth l j) underlying35 (by kernel_rfl) rfl (by decide) (fun _ => rfl) (by intro x; simp [encCrg, Value.oneCell']) rfl rfl rfl rfl D68 B65 (by omega) (by first | omega | (simp only [List.length_append, List.length_cons, List.length_nil]; omega)) (by decide) (fun ao69 gb70 cp71 w72 A73 u74 gegb70 lngb70 => ?_)
   have zu74 := u74.size
   have lt_gb70 := A73.lt
   refine go ?_
   exact hK10 (j + 1) true ((o1 ++ [(⟨bill, tons⟩ : Crg)]) ++ [(nth l j)]) (ao69, gb70, cp71) ⟨(by omega), (by
         rw [← hbk, drop_nth (show j < l.length by omega)]; unfold bookR; rw [if_pos rfl, if_neg (by rw [hz1.1]; decide), book_gt (by omega) htn]; simp), A73, (show gb70 = bk3 ∨ w4.heap.size ≤ gb70 by omega), (by simp only [List.length_append, List.length_cons, List.length_nil]; omega)⟩
  have hz0 : dn = false → (nth l j).b < bill := fun e => by rw [hz9, e] at g27; simpa using g27
  refine go ?_
  refine g_i j (hl.keep E26.u (fun _ h => h)) (fun _ => ?_)
  refine go ?_
  refine x_l fun bk77 w78 ebk77 sbk77 B79 u80 => ?_
  have D82 := ((hA.keep u24 (fun _ h => h)).keep u80 (fun _ h => h))
  refine t_append (z := .agg #[.int .i64 0, .int .i64 0]) (bytes := 16) (k := 2) (base := bk3) (nth l j) underlying35 (by kernel_rfl) rfl (by decide) (fun _ => rfl) (by intro x; simp [encCrg, Value.oneCell']) rfl rfl rfl rfl D82 B79 (by omega) (by first | omega | (simp only [List.length_append, List.length_cons, List.length_nil]; omega)) (by decide) (fun ao83 gb84 cp85 w86 A87 u88 gegb84 lngb84 => ?_)
  have zu88 := u88.size
  have lt_gb84 := A87.lt
  refine go ?_
  exact hK10 (j + 1) dn (o1 ++ [(nth l j)]) (ao83, gb84, cp85) ⟨(by omega), (by
        rw [← hbk, drop_nth (show j < l.length by omega)]; unfold bookR; cases dn with
        | true => simp
        | false => rw [if_neg (by decide), if_neg (by decide), book_lt (by have := hz0 rfl; omega)]; simp), A87, (show gb84 = bk3 ∨ w4.heap.size ≤ gb84 by omega), (by simp only [List.length_append, List.length_cons, List.length_nil]; omega)⟩
 rw [List.drop_of_length_le (by omega)] at hbk
 refine go ?_
 refine q_b (fun g69 => ?_) fun g69 => ?_
 ·
  refine go ?_
  refine x_l fun bk92 w93 ebk92 sbk92 B94 u95 => ?_
  have D97 := (hA.keep u95 (fun _ h => h))
  refine t_append (z := .agg #[.int .i64 0, .int .i64 0]) (bytes := 16) (k := 2) (base := bk3) (⟨bill, tons⟩ : Crg) underlying35 (by kernel_rfl) rfl (by decide) (fun _ => rfl) (by intro x; simp [encCrg, Value.oneCell']) rfl rfl rfl rfl D97 B94 (by omega) (by omega) (by decide) (fun ao98 gb99 cp100 w101 A102 u103 gegb99 lngb99 => ?_)
  have zu103 := u103.size
  have lt_gb99 := A102.lt
  refine go ?_
  refine f_1 results106 ?_
  have hdn : dn = false := by simpa using g69
  have hfin : (o1 ++ [(⟨bill, tons⟩ : Crg)]) = bookP bill tons l := by
    rw [← hbk, hdn]
    show _ = o1 ++ bookP bill tons []
    rw [book_nil htn]
  obtain ⟨gz, hz⟩ := Acc.lower (base' := w0.heap.size) A102 (by omega) hpos
  rw [hfin] at hz
  exact ⟨⟨_, gz, _, by rw [hfin], hz⟩, u_d⟩
 refine go ?_
 refine f_1 results106 ?_
 have hdn : dn = true := by simpa using g69
 have hfin : o1 = bookP bill tons l := by
   rw [← hbk, hdn]
   show _ = o1 ++ []
   rw [List.append_nil]
 obtain ⟨gz, hz⟩ := Acc.lower (base' := w0.heap.size) hA (by omega) hpos
 rw [hfin] at hz
 exact ⟨⟨_, gz, _, by rw [hfin], hz⟩, u_d⟩

end Go.Proofs.YtjdcpnaocjddoaaGreatDoor
