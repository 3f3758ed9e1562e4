/-
  Part 6 of the proof: contracts and plain laws. Conditions: none.
-/
import Derived.Test.YtclinbbghnebaaaGreatProg
import Derived.Maps.RangeRun
import Derived.Shelf.SlSortCmp.WholeK
import Derived.Shelf.SlSortCmp.NoneTotal
import Derived.Ground.SlsfProg
import Derived.Test.YtclinbbghnebaaaGreatDK5
namespace Go.Proofs.YtclinbbghnebaaaGreat
open Go Go.RowKit

theorem Gr.grow {w w' : World} (h : Gr w w') : ∃ q os', w' = Go.Sort.grow (w.drewN q) os' := by
  obtain ⟨h1, h2, h3, h4, os, h5⟩ := h
  refine ⟨w'.drawn - w.drawn, os, ?_⟩
  cases w; cases w'
  simp only [Go.Sort.grow, World.drewN] at *
  simp_all
theorem len_c {P : Program} {ρ : Go.Shelf.Ren} (L : SlLaysF0.n14 P ρ) (n : Nat) (hn : n ≤ 1000000) (w : World) : CallsV P (ρ.f 15) [.int .u64 (n : Int)] w fun v w' => ∃ k : Nat, v = .int .i64 (k : Int) ∧ k < 4611686018427387904 ∧ Ext w w' := by
  have h := Any.bits_Len (SlLaysF0.n15.bits (P := P) (ρ := ρ) { L with }) (n : Int) w (by omega) (by omega)
  rw [Int.toNat_natCast] at h
  refine Calls.mono h ?_
  rintro e w' ⟨rfl, rfl⟩
  exact ⟨_, rfl, Lib.bitLen n, rfl, Nat.lt_of_le_of_lt (Lib.bitLen_le n 62 (by omega) (by omega)) (by omega), Upd.refl _ _⟩
theorem pdq_c {α : Type} [Inhabited α] {P : Program} {ρ : Go.Shelf.Ren} (L : SlLaysF0.n14 P ρ) (k : Nat) (hk0 : 0 < k) (aE : ∀ w, (isAgg (ρ.t 24)).run P w = .ok true w) (zE : ∀ w, (sizeOf (ρ.t 24)).run P w = .ok k w) (enc : α → List Value) (hk : ∀ x, (enc x).length = k) (h1 : ∀ x, ∀ v ∈ enc x, v.oneCell' = true)
    (cf : α → α → Int) (hO : Go.Sort.SWO (ltOf cf)) (g : Nat) (eg : Own P g) (hcmp : CmpOk P g enc cf) (e : TypeId) (base : Nat) (ao : Option Addr) (gb cap : Nat) (xs : List α) (lim : Nat) (hlim : lim < 4611686018427387904) (w : World) (ha : Acc enc k e base w ao gb cap xs) (hlen : xs.length ≤ 1000000) :
    CallsV P (ρ.f 14) [.slice ao xs.length cap, .int .i64 0, .int .i64 (xs.length : Int), .int .i64 (lim : Int), .func (.func g) #[] #[]] w fun v w' => ∃ ys, List.Perm ys xs ∧ Asc cf ys ∧ Acc enc k e base w' ao gb cap ys ∧ Upd (fun i => i = gb ∧ base ≤ i) w w' ∧ v = .tuple #[] := by
  rcases Nat.eq_zero_or_pos xs.length with h0 | h0
  · have : xs = [] := List.eq_nil_of_length_eq_zero h0
    subst this
    refine Calls.mono (AnyF.pdqsortCmpFunc_none L ao cap lim _ w) ?_
    rintro e w' ⟨rfl, rfl⟩
    exact ⟨_, rfl, [], List.Perm.refl _, fun i j _ h => by simp at h, ha, Upd.refl _ _, rfl⟩
  · have hao := (ha.sl hk).addr h0
    have hb : base ≤ gb := by
      rcases ha.at_ with ⟨_, h2, _⟩ | ⟨_, h2, _⟩
      · subst h2; simp at h0
      · exact h2
    have hsz : xs.toArray.size = xs.length := by simp
    have hH := holdsK_acc hk0 hk ha h0
    have hc := AnyQ.pdqsortCmpFunc_all L k aE zE enc cf g #[] hO gb 0 cap xs.toArray w (fun args w => eg.run args w) (fun m os dk _ x y => hcmp x y _) ⟨hk, h1, hH, ha.lt⟩ (xs.length + 1) 0 xs.length lim xs.toArray w (by omega) rfl (SWK.start hH) (Nat.zero_le _) (by rw [hsz]; exact Nat.le_refl _) (by rw [hsz]; omega) hlim (Or.inl rfl)
    rw [hsz] at hc
    subst hao
    refine Calls.mono hc ?_
    rintro e w' ⟨rfl, n, os, rfl⟩
    have hps := Go.Sort.pdq_sorts (ltOf cf) hO xs.toArray 0 xs.length lim true true (Nat.zero_le _) (by rw [hsz]; exact Nat.le_refl _) (Or.inl rfl)
    have hp := hps.1
    have hs := hps.2
    generalize Go.Sort.pdq (ltOf cf) xs.toArray 0 xs.length lim true true = d' at hp hs ⊢
    have hds : d'.size = xs.length := by rw [hp.1]; simp
    have hdl : d'.toList.length = xs.length := by simpa using hds
    have hacc := acc_sorted hk0 hk ha h0 d' hds n os
    refine ⟨_, rfl, d'.toList, ?_, ?_, hacc, (upd_sorted enc k w gb n d' os).mono (fun i hi => ⟨hi, by omega⟩), rfl⟩
    · have h3 := hp.2.2
      rw [show d'.extract 0 xs.length = d' from by rw [← hds]; exact Array.extract_size, show xs.toArray.extract 0 xs.length = xs.toArray from by rw [← hsz]; exact Array.extract_size] at h3
      simpa using h3
    · intro i j hij hj
      have h4 := hs i j (Nat.zero_le _) hij (by omega)
      have hn : ∀ i, d'[i]! = nth d'.toList i := fun i => by have := nth_toArray d'.toList i; simpa using this
      rw [hn, hn] at h4
      unfold ltOf at h4
      simpa using h4
end Go.Proofs.YtclinbbghnebaaaGreat

namespace Go.Proofs.YtclinbbghnebaaaGreat
open Go Go.RowKit
set_option maxRecDepth 10000

theorem or3_lt {a b c : Int} : or3 a b c < 0 ↔ a < 0 ∨ (a = 0 ∧ (b < 0 ∨ (b = 0 ∧ c < 0))) := by unfold or3; split <;> (try split) <;> omega
theorem cmp_lt {a b : Int} : cmpI3 a b < 0 ↔ a < b := by unfold cmpI3; split <;> (try split) <;> omega
theorem cmp_gt {a b : Int} : 0 < cmpI3 a b ↔ b < a := by unfold cmpI3; split <;> (try split) <;> omega
theorem cmp_eq {a b : Int} : cmpI3 a b = 0 ↔ a = b := by unfold cmpI3; split <;> (try split) <;> omega
end Go.Proofs.YtclinbbghnebaaaGreat
namespace Go.Proofs.YtclinbbghnebaaaGreat
open Go Go.RowKit Go.Proofs.Tryz
set_option maxRecDepth 10000




theorem growI_c (n : Nat) (w0 : World) (hn : n ≤ 100000) (hpos : 0 < w0.heap.size) :
    CallsV Tryz.prog 113 [.slice none 0 0, .int .i64 (n : Int)] w0 (fun v w' => (∃ ao g cp, v = .slice ao 0 cp ∧ Acc encI 1 3 w0.heap.size w' ao g cp []) ∧ Ext w0 w') := by
 refine f_n func113 ?_
 refine go ?_
 refine t_cap underlying38 rfl rfl rfl rfl ?_
 refine go ?_
 refine q_p (fun g16 => ?_) fun g16 => ?_
 ·
  refine go ?_
  refine t_cap underlying38 rfl rfl rfl rfl (t_sliceTo (0) underlying38 sizeOf3 rfl rfl rfl rfl (by omega) (by omega) (t_same 20 (v := .slice none 0 0) rfl (by rfl) ?_))
  refine go ?_
  refine t_appZN (z := .int .i64 0) (bytes := 8) (k := 1) n underlying38 underlying3 (by kernel_rfl) rfl (by decide) rfl rfl rfl rfl (by omega) (by omega) (by omega) (by decide) (fun cN w7 zs hcN hcM hzl B9 u8 => ?_)
  have zu8 := u8.size
  refine go ?_
  refine t_sliceTo (0) underlying38 sizeOf3 rfl rfl rfl rfl (by omega) (by omega) (t_same 25 (v := .slice (some ⟨w0.heap.size, 0, none⟩) 0 cN) rfl (by rw [subAddr_some (by omega)]) ?_)
  refine go ?_
  refine f_1 results113 ?_
  exact ⟨⟨_, _, cN, rfl, Acc.ofRaw (cs := zs) B9 (by omega) (Nat.zero_le _) hcM hzl (by rfl)⟩, u_d⟩
 refine go ?_
 refine f_1 results113 ?_
 exact ⟨⟨none, 0, 0, rfl, Acc.nil _ _ _ _ _ hpos (by omega)⟩, u_d⟩

theorem concatI_c (L : List (Hl Int)) (ns : List Int) (al : Option Addr) (bl ol cl : Nat) (w0 : World) (hL : Sl encHl 1 w0 al bl ol L) (hLm : ∀ h ∈ L, Sl encI 1 w0 h.ao h.g h.o h.xs ∧ h.xs.length ≤ 1000) (hLl : L.length ≤ 2) (he : L.flatMap Hl.xs = ns) (hpos : 0 < w0.heap.size) :
    CallsV Tryz.prog 51 [.slice al L.length cl] w0 (fun v w' => (∃ ao g cp, v = .slice ao (List.length ns) cp ∧ Acc encI 1 3 w0.heap.size w' ao g cp ns) ∧ Ext w0 w') := by
 refine f_n func51 ?_
 refine go ?_
 refine x_l1 (fun _ => False) [0, 9, 10] (fun (k : Nat) => [(3, .int .i64 (((L.take k).flatMap Hl.xs).length : Int)), (11, .int .i64 (k : Int))]) (fun k w => (k ≤ L.length) ∧ (((L.take k).flatMap Hl.xs).length ≤ 1000 * k)) (fun k => L.length - k) 0 ⟨(Nat.zero_le _), (Nat.le_refl _)⟩ ?_ (h0 := by exact ⟨(by first | exact congrArg (fun z => some (Value.int .i64 z)) (by rw [hst9, List.length_append]; omega) | rfl), rfl, rfl, rfl, rfl, trivial⟩)
 rintro k w6 ⟨hk, hsum⟩ u7 zu7 K5 hK5
 have E8 := Sc.mk ((Upd.refl (fun _ => False) w0).nx u7)
 refine go ?_
 refine q_p (fun g12 => ?_) fun g12 => ?_
 ·
  have hst9 : ((L.take (k + 1)).flatMap Hl.xs) = ((L.take k).flatMap Hl.xs) ++ (nth L k).xs := by rw [take_nth (show k < L.length by omega), List.flatMap_append]; simp
  have hx6 := (hLm _ (nth_mem (show k < L.length by omega))).2
  refine go ?_
  refine g_i k (hL.keep E8.u (fun _ h => h)) (fun _ => ?_)
  refine go ?_
  exact hK5 (k + 1) ⟨(by omega), (by rw [hst9, List.length_append]; have := (hLm _ (nth_mem (show k < L.length by omega))).2; omega)⟩ (hs := by exact ⟨(by first | exact congrArg (fun z => some (Value.int .i64 z)) (by rw [hst9, List.length_append]; omega) | rfl), rfl, rfl, rfl, rfl, trivial⟩)
 have hke : k = L.length := by omega
 have hsz : ((L.take k).flatMap Hl.xs) = ns := by rw [hke, List.take_length]; exact he
 refine go ?_
 refine x_c func113 rfl rfl (growI_c ((L.take k).flatMap Hl.xs).length _ (by omega) (by omega)) ?_
 rintro _ w18 ⟨⟨aG, gG, cG, rfl, haG⟩, u19⟩ zu19
 obtain ⟨gL, haL⟩ := Acc.lower (base' := w0.heap.size) haG (by omega) hpos
 have lt_gL := haL.lt
 refine go ?_
 refine x_l4 (fun i => w0.heap.size ≤ i) [25, 26] (fun (j : Nat) (ao : Option Addr) (gq : Nat) (cg : Nat) => [(6, .slice ao (((L.take j).flatMap Hl.xs).length) cg), (27, .int .i64 (j : Int))]) (fun j ao gq cg w => (j ≤ L.length) ∧ (Acc encI 1 3 w0.heap.size w ao gq cg ((L.take j).flatMap Hl.xs)) ∧ (((L.take j).flatMap Hl.xs).length ≤ 1000 * j)) (fun j ao gq cg => L.length - j) 0 aG gL cG ⟨(Nat.zero_le _), haL, (Nat.le_refl _)⟩ ?_ (h0 := by exact ⟨(by first | (rw [hst9]; rfl) | rfl), rfl, rfl, rfl, trivial⟩)
 rintro j ao gq cg w25 ⟨hj, hgr, hsj⟩ u26 zu26 K24 hK24
 have E27 := Sc.mk ((E8.u.nx u19).next u26 (fun i hi (h : w0.heap.size ≤ i) => show False by first | omega | assumption))
 have lt_gq := hgr.lt
 refine go ?_
 refine q_p (fun g28 => ?_) fun g28 => ?_
 ·
  have hst9 : ((L.take (j + 1)).flatMap Hl.xs) = ((L.take j).flatMap Hl.xs) ++ (nth L j).xs := by rw [take_nth (show j < L.length by omega), List.flatMap_append]; simp
  have hx6 := (hLm _ (nth_mem (show j < L.length by omega))).2
  refine go ?_
  refine g_i j (hL.keep E27.u (fun _ h => h)) (fun _ => ?_)
  refine go ?_
  refine t_appendAll (enc := encI) (z := .int .i64 0) (bytes := 8) (k := 1) (base := w0.heap.size) (xs := ((L.take j).flatMap Hl.xs)) (ys := (nth L j).xs) underlying38 (by kernel_rfl) rfl (by decide) (fun _ => rfl) (by intro x; simp [encI, Value.oneCell']) rfl rfl rfl rfl hgr ((hLm (nth L j) (nth_mem (by omega))).1.keep E27.u (fun _ h => h)) (by omega) (by omega) (by omega) (by decide) (fun ao33 gb34 cp35 w36 A37 u38 gegb34 lngb34 => ?_)
  have zu38 := u38.size
  have lt_gb34 := A37.lt
  refine go ?_
  exact hK24 (j + 1) ao33 gb34 cp35 ⟨(by omega), (by rw [hst9]; exact A37), (by rw [hst9, List.length_append]; have := (hLm _ (nth_mem (show j < L.length by omega))).2; omega)⟩ (hs := by exact ⟨(by first | (rw [hst9]; rfl) | rfl), rfl, rfl, rfl, trivial⟩) (hu := (u26.next u38 (fun i hi (h : (i = gq ∧ w0.heap.size ≤ i)) => show w0.heap.size ≤ i by first | omega | assumption)))
 have hje : ((L.take j).flatMap Hl.xs) = ns := by rw [show j = L.length by omega, List.take_length]; exact he
 rw [hje] at hgr
 refine c_same 6 (v := .slice ao ns.length cg) rfl (by rw [hje]) ?_
 refine go ?_
 refine f_1 results51 ?_
 exact ⟨⟨ao, gq, cg, rfl, hgr⟩, u_d⟩

end Go.Proofs.YtclinbbghnebaaaGreat
namespace Go.Proofs.YtclinbbghnebaaaGreat
open Go Go.RowKit
set_option maxRecDepth 10000

/-- A queue is an array of orders and the number of the first one that is left. -/
def takeB (x : Bid) (t : Int) : Bid := ⟨x.p, x.n - t, x.r, x.m⟩
def takeZ (zs : List Bid) (i : Nat) (t : Int) : List Bid := zs.set i (takeB (nth zs i) t)
def takeI (zs : List Bid) (i : Nat) (t : Int) : Nat := if (nth zs i).n - t = 0 then i + 1 else i
theorem takeZ_len (zs : List Bid) (i : Nat) (t : Int) : (takeZ zs i t).length = zs.length := by simp [takeZ]
theorem takeZ_nth {zs : List Bid} {i : Nat} {t : Int} (h : i < zs.length) : nth (takeZ zs i t) i = takeB (nth zs i) t := by simp [takeZ, nth, List.getD_eq_getElem?_getD, h]
end Go.Proofs.YtclinbbghnebaaaGreat
namespace Go.Proofs.YtclinbbghnebaaaGreat
open Go Go.RowKit
/-- How keys and values of a map are laid. -/
structure Cod (α β : Type) where
  k : α → Value
  v : β → Value
def kvG {α β : Type} (c : Cod α β) (p : α × β) : Value × Value := (c.k p.1, c.v p.2)
/-- In block r lies a map with these keys and values. -/
def MapG {α β : Type} (cd : Cod α β) (m : List (α × β)) (w : World) (r : Nat) : Prop := ∃ es c, w.heap[r]? = some (.map es c) ∧ es.toList.map (fun e => (e.key, e.val)) = m.map (kvG cd) ∧ (∀ e ∈ es.toList, e.born < c) ∧ (es.toList.map (·.born)).Nodup
section
variable {α β : Type} {cd : Cod α β}
theorem MapG.lt {m : List (α × β)} {w : World} {r : Nat} (h : MapG cd m w r) : r < w.heap.size := by obtain ⟨es, c, h, _⟩ := h; exact lt_of_block h
theorem MapG.keep {m : List (α × β)} {w w' : World} {r : Nat} {S : Nat → Prop} (h : MapG cd m w r) (u : Upd S w w') (hn : ¬ S r) : MapG cd m w' r := by
  obtain ⟨es, c, h1, h2⟩ := h
  exact ⟨es, c, (u.block r (lt_of_block h1) hn).trans h1, h2⟩
theorem MapG.ofMemo {w : World} {r : Nat} (h : ∀ F, Memo F w r) : MapG cd [] w r := by
  obtain ⟨es, c, h1, h2⟩ := h (fun _ _ _ => False)
  have he : es.toList = [] := by
    cases he : es.toList with
    | nil => rfl
    | cons e l => obtain ⟨_, _, _, hf⟩ := h2 e (by rw [he]; simp); exact hf.elim
  exact ⟨es, c, h1, by rw [he]; rfl, by rw [he]; simp, by rw [he]; simp⟩
end
/-- Where a key stands, and its value. -/
def fG {α β : Type} [DecidableEq α] : List (α × β) → α → Nat → Option (Nat × β)
  | [], _, _ => none
  | p :: m, a, i => if a = p.1 then some (i, p.2) else fG m a (i + 1)
def gtG {α β : Type} [DecidableEq α] (m : List (α × β)) (a : α) : Option β := (fG m a 0).map (·.2)
def upG {α β : Type} [DecidableEq α] (m : List (α × β)) (a : α) (v : β) : List (α × β) := match fG m a 0 with
  | none => m ++ [(a, v)]
  | some p => m.set p.1 (a, v)
/-- What the key's type must know: whether two keys are one. -/
structure KeyOK (P : Program) (K : TypeId) {α β : Type} [DecidableEq α] (cd : Cod α β) : Prop where
  find : ∀ (m : List (α × β)) (es : List MapEntry) (a : α) (w : World), es.map (fun e => (e.key, e.val)) = m.map (kvG cd) → (Instr.findKey K (cd.k a) es).run P w = .ok ((fG m a 0).map fun p => (p.1, cd.v p.2)) w
  check : ∀ (em : Bool) (a : α) (w : World), (Instr.checkKey em 10000 K (cd.k a)).run P w = .ok () w
  stays : ∀ (a : α) (w : World), (Instr.keyThatStays (cd.k a) (cd.k a)).run P w = .ok (cd.k a) w
section
variable {α β : Type} [DecidableEq α] {cd : Cod α β}
theorem fG_at : ∀ (m : List (α × β)) (a : α) (i : Nat) {j : Nat} {v : β}, fG m a i = some (j, v) → i ≤ j ∧ m[j - i]? = some (a, v)
  | [], _, _, _, _, h => by cases h
  | p :: m, a, i, j, v, h => by
    unfold fG at h
    split at h
    · rename_i e
      simp only [Option.some.injEq, Prod.mk.injEq] at h
      obtain ⟨rfl, rfl⟩ := h
      refine ⟨Nat.le_refl _, ?_⟩
      rw [Nat.sub_self, e]; rfl
    · have := fG_at m a (i + 1) h
      refine ⟨by omega, ?_⟩
      rw [show j - i = (j - (i + 1)) + 1 by omega]
      simpa using this.2
end
section
variable {P : Program} {α β : Type} [DecidableEq α]
theorem findNowG {v : β → Value} {a : Int} : ∀ (m : List (Int × β)) (es : List MapEntry) (i : Nat), es.map (fun e => (e.key, e.val)) = m.map (kvG ⟨.int .i64, v⟩) → Instr.findNow (.int .i64) (.int .i64 a) es i = some ((fG m a i).map fun p => (p.1, v p.2))
  | [], [], i, _ => rfl
  | [], _ :: _, _, h => by simp at h
  | _ :: _, [], _, h => by simp at h
  | p :: m, e :: es, i, h => by
    simp only [List.map_cons, List.cons.injEq, kvG, Prod.mk.injEq] at h
    obtain ⟨⟨hk, hv⟩, h⟩ := h
    have ih := findNowG (a := a) m es (i + 1) h
    by_cases q : a = p.1
    · simp [Instr.findNow, hk, hv, Instr.sameNow, fG, q]
    · have hs : Instr.sameNow (.int .i64) (.int .i64 a) e.key = some false := by rw [hk]; simp [Instr.sameNow, q]
      rw [Instr.findNow, hs]
      simp only [fG, if_neg q]
      exact ih
theorem checkKeyN {K : TypeId} (hK : P.underlying K = some (.int .i64)) (em : Bool) (n : Nat) (a : Int) (w : World) : (Instr.checkKey em (n + 1) K (.int .i64 a)).run P w = .ok () w := by
  simp [Instr.checkKey, run_underlying hK]
theorem KeyOK.int {K : TypeId} (hK : P.underlying K = some (.int .i64)) (v : β → Value) : KeyOK P K (⟨.int .i64, v⟩ : Cod Int β) :=
  ⟨fun m es a w h => by simp [Instr.findKey, run_underlying hK, findNowG m es 0 h], fun em a w => checkKeyN hK em 9999 a w, fun a w => by simp [Instr.keyThatStays, Instr.sameBits]⟩
end
section steps
variable {rd : Option Nat} {P : Program} {ops : Array Oper} {Q : Exit → Act → World → Prop} {N : Nat} {ds : List Deferred} {rest : List Oper} {L : Slots} {w : World}
variable {α β : Type} [DecidableEq α] {cd : Cod α β}
variable {d : Nat} {ty : TypeId} {pos : String} {aft : Array Edge} {g : Option (Nat × Bool)}
/-- m[a], and whether it is there. -/
theorem t_lookG {T K E : TypeId} {x i : Operand} {r : Nat} {a : α} {z : Value} {m : List (α × β)} (hK : KeyOK P K cd) (hu : P.underlying T = some (.map K E)) (hz : ∀ w, (zeroValue E).run P w = .ok z w)
    (hg : grd ops L g = true) (hN : Nat.blt d N = true) (hx : ev L x = some (.map (some r))) (hi : ev L i = some (cd.k a)) (hm : MapG cd m w r)
    (h0 : gtG m a = none → WL rd P ops Q N ds rest ((d, .tuple #[z, .bool false]) :: L) w) (h1 : ∀ v, gtG m a = some v → WL rd P ops Q N ds rest ((d, .tuple #[cd.v v, .bool true]) :: L) w) : WL rd P ops Q N ds (⟨some d, .lookup T x i true, ty, pos, aft, g⟩ :: rest) L w := by
  obtain ⟨es, c, q1, q2, _⟩ := hm
  have hgo : (getObj r).run P w = .ok (.map es c) w := by simp [getObj, Sem.run, q1]
  have hj := fun w => hK.find m es.toList a w q2
  unfold gtG at h0 h1
  cases hf : fG m a 0 with
  | none =>
    rw [hf] at h0 hj
    refine WL.value hg rfl hN (fun a hk => ?_) (h0 rfl)
    simp only [execOp, hk.ev hx, hk.ev hi]
    simp [Instr.lookup, run_underlying hu, hgo, hK.check, hj, hz]
  | some p =>
    rw [hf] at h1 hj
    refine WL.value hg rfl hN (fun a hk => ?_) (h1 p.2 rfl)
    simp only [execOp, hk.ev hx, hk.ev hi]
    simp [Instr.lookup, run_underlying hu, hgo, hK.check, hj]
end steps
section steps2
variable {rd : Option Nat} {P : Program} {ops : Array Oper} {Q : Exit → Act → World → Prop} {N : Nat} {ds : List Deferred} {rest : List Oper} {L : Slots} {w : World}
variable {α β : Type} {cd : Cod α β}
variable {d : Nat} {ty : TypeId} {pos : String} {aft : Array Edge} {g : Option (Nat × Bool)}
/-- A range over the map in block r is under way, its iterator lies in block it; these entries are to come. -/
def ItG {α β : Type} (cd : Cod α β) (m left : List (α × β)) (w : World) (r it : Nat) : Prop := ∃ es c since seen c0, w.heap[r]? = some (.map es c) ∧ es.toList.map (fun e => (e.key, e.val)) = m.map (kvG cd) ∧ (es.toList.map (·.born)).Nodup ∧ w.heap[it]? = some (.mapIter (some r) since seen c0) ∧ (∀ e ∈ es.toList, e.born < since) ∧ since ≤ c0 ∧ since ≤ c ∧ (leftOf es seen).toList.map (fun e => (e.key, e.val)) = left.map (kvG cd)
theorem ItG.keep {m left : List (α × β)} {w w' : World} {r it : Nat} {S : Nat → Prop} (h : ItG cd m left w r it) (u : Upd S w w') (h1 : ¬ S r) (h2 : ¬ S it) : ItG cd m left w' r it := by
  obtain ⟨es, c, since, seen, c0, q1, q2, q3, q4, q5⟩ := h
  exact ⟨es, c, since, seen, c0, (u.block r (lt_of_block q1) h1).trans q1, q2, q3, (u.block it (lt_of_block q4) h2).trans q4, q5⟩
theorem ItG.same {m left : List (α × β)} {w w' : World} {r it : Nat} (h : ItG cd m left w r it) (h1 : w'.heap[r]? = w.heap[r]?) (h2 : w'.heap[it]? = w.heap[it]?) : ItG cd m left w' r it := by
  obtain ⟨es, c, since, seen, c0, q1, q2, q3, q4, q5⟩ := h
  exact ⟨es, c, since, seen, c0, h1.trans q1, q2, q3, h2.trans q4, q5⟩
theorem ItG.map {m left : List (α × β)} {w : World} {r it : Nat} (h : ItG cd m left w r it) : ∃ a b, w.heap[r]? = some (.map a b) := by obtain ⟨es, c, since, seen, c0, q1, q2, q3, q4, q5⟩ := h; exact ⟨_, _, q1⟩
end steps2
end Go.Proofs.YtclinbbghnebaaaGreat
namespace Go.Proofs.YtclinbbghnebaaaGreat
open Go Go.RowKit Go.Proofs.Tryz
set_option maxRecDepth 10000

/-- The edition and the key of a message. -/
def edK (m : Msg) : Int × Int × Int := (m.c, m.n, m.r)
def keK (m : Msg) : Int × Int := (m.c, m.n)
/-- The editions, and the latest ones, of the first messages. -/
def edS (l : List Msg) : Nat → List ((Int × Int × Int) × Msg)
  | 0 => []
  | k + 1 => upG (edS l k) (edK (nth l k)) (nth l k)
def laOld (m : List ((Int × Int) × Msg)) (x : Msg) : Bool := match gtG m (keK x) with
  | none => true
  | some v => decide (v.r < x.r)
def laS (l : List Msg) : Nat → List ((Int × Int) × Msg)
  | 0 => []
  | k + 1 => if laOld (laS l k) (nth l k) = true then upG (laS l k) (keK (nth l k)) (nth l k) else laS l k
/-- Another message with the same edition. -/
def edErr (l : List Msg) (k : Nat) : Prop := ∃ o, gtG (edS l k) (edK (nth l k)) = some o ∧ o ≠ nth l k
/-- Facts in order. -/
def cmpF (a b : Msg) : Int := or3 (cmpI3 a.c b.c) (cmpI3 a.m b.m) (cmpI3 a.n b.n)
theorem cmpF_lt {a b : Msg} : cmpF a b < 0 ↔ a.c < b.c ∨ (a.c = b.c ∧ (a.m < b.m ∨ (a.m = b.m ∧ a.n < b.n))) := by
  unfold cmpF; rw [or3_lt, cmp_lt, cmp_eq, cmp_lt, cmp_eq, cmp_lt]
/-- What messages report. -/
def rdE (l : List Msg) : Int := if 100 < l.length then 5 else if (l.any fun m => !okMsg m) = true then 2 else 0
def RdR (l : List Msg) (out : List Msg) (e : Int) : Prop := (rdE l ≠ 0 ∧ e = rdE l ∧ out = []) ∨ (rdE l = 0 ∧ e = 6 ∧ out = [] ∧ ∃ k, k < l.length ∧ edErr l k) ∨
  (rdE l = 0 ∧ e = 0 ∧ (∀ k, k < l.length → ¬ edErr l k) ∧ out.Perm (((laS l l.length).map (·.2)).filter fun m => decide (m.k ≠ 7)) ∧ Asc cmpF out)
theorem Msg.eq6 {a b : Msg} (h : a.c = b.c ∧ a.n = b.n ∧ a.r = b.r ∧ a.k = b.k ∧ a.m = b.m ∧ a.v = b.v) : a = b := by
  cases a; cases b; simp_all
end Go.Proofs.YtclinbbghnebaaaGreat
namespace Go.Proofs
open Go.Shelf
end Go.Proofs
namespace Go.Proofs.YtclinbbghnebaaaGreat
open Go Go.RowKit Go.Proofs.Tryz
set_option maxRecDepth 10000

theorem upG_len {α β : Type} [DecidableEq α] (m : List (α × β)) (a : α) (v : β) : (upG m a v).length ≤ m.length + 1 := by
  unfold upG
  split
  · simp
  · rw [List.length_set]; omega
theorem laS_len (l : List Msg) : ∀ k, (laS l k).length ≤ k
  | 0 => Nat.le_refl _
  | k + 1 => by
    have := laS_len l k
    have := upG_len (laS l k) (keK (nth l k)) (nth l k)
    unfold laS
    split <;> omega
theorem own92 : Own Tryz.prog 92 := ⟨Tryz.f92, func92, by kernel_rfl, by kernel_rfl⟩
end Go.Proofs.YtclinbbghnebaaaGreat
namespace Go.Proofs.YtclinbbghnebaaaGreat
open Go Go.RowKit Go.Proofs.Tryz
set_option maxRecDepth 10000

/-- The first rows of a table of low water: one is not valid, or they do not ascend. -/
def lowK (ws : List Low) : Nat → Bool
  | 0 => ws.any fun x => !okLow x
  | k + 1 => lowK ws k || decide ((nth ws (k + 1)).b ≤ (nth ws k).b)
def okCh (c : Chr) (ws : List Low) : Bool := decide (lowK ws (ws.length - 1) = false ∧ ws.length ≤ 10 ∧ ((0 ≤ c.s ∧ c.s ≤ 99) ∧ (0 ≤ c.c ∧ c.c ≤ 99) ∧ (0 ≤ c.k ∧ c.k ≤ 99)) ∧ (0 ≤ c.r ∧ c.r ≤ 1000000) ∧ (0 ≤ c.n ∧ c.n ≤ 1000000) ∧ ((0 ≤ c.l ∧ c.l ≤ 100000) ∧ (0 ≤ c.o ∧ c.o ≤ 100000)) ∧ ((0 ≤ c.d ∧ c.d ≤ 100000000) ∧ (0 ≤ c.e ∧ c.e ≤ 100000000)) ∧ (0 ≤ c.m ∧ c.m ≤ 100))
def chkCh (c : Chr) (ws : List Low) : Int := if okCh c ws = true then 0 else 2
end Go.Proofs.YtclinbbghnebaaaGreat
namespace Go.Proofs.YtclinbbghnebaaaGreat
open Go Go.RowKit Go.Proofs.Tryz
set_option maxRecDepth 10000

/-- Two lists compared. -/
def cmpL : List Int → List Int → Int
  | [], [] => 0
  | [], _ :: _ => -1
  | _ :: _, [] => 1
  | a :: x, b :: y => if cmpI3 a b ≠ 0 then cmpI3 a b else cmpL x y
def btr (a : List Int) (ga : Int) (b : List Int) (gb : Int) : Bool := decide (or3 (cmpI3 gb ga) (cmpI3 (a.length : Int) (b.length : Int)) (cmpL a b) < 0)
/-- A hull that moves empty: its place, the minute, minutes and cost of a place. -/
structure Hul where
  p : Int
  m : Int
  s : Int
  c : Int
def okHul (h : Hul) : Prop := (0 ≤ h.p ∧ h.p ≤ 100000) ∧ (0 ≤ h.m ∧ h.m ≤ 100000) ∧ (0 ≤ h.s ∧ h.s ≤ 1000) ∧ (0 ≤ h.c ∧ h.c ≤ 100000)
def farH (h : Hul) (x : Off) : Int := max (h.p - x.f) (x.f - h.p)
theorem farH_rng {h : Hul} {x : Off} (hh : okHul h) (hx : okOff x = true) : 0 ≤ farH h x ∧ farH h x ≤ 100000 := by
  unfold okOff at hx; unfold okHul at hh; unfold farH
  rw [decide_eq_true_eq] at hx
  omega
theorem compareL_c (xs : List Int) (ax : Option Addr) (bx ox cx : Nat) (ys : List Int) (ay : Option Addr) (by_ oy cy : Nat) (w0 : World) (hx : Sl encI 1 w0 ax bx ox xs) (hy : Sl encI 1 w0 ay by_ oy ys) (hxl : xs.length ≤ 1000000) (_hyl : ys.length ≤ 1000000) :
    CallsV Tryz.prog 37 [.slice ax xs.length cx, .slice ay ys.length cy] w0 (fun v w' => v = .int .i64 (cmpL xs ys) ∧ Ext w0 w') := by
 refine f_n func37 ?_
 refine go ?_
 refine x_l1 (fun _ => False) [0, 1, 9, 10] (fun (k : Nat) => [(11, .int .i64 (k : Int))]) (fun k w => (k ≤ xs.length) ∧ (k ≤ ys.length) ∧ (cmpL xs ys = cmpL (xs.drop k) (ys.drop k))) (fun k => xs.length - k) 0 ⟨(Nat.zero_le _), (Nat.zero_le _), rfl⟩ ?_
 rintro k w5 ⟨hk, hk2, hcm⟩ u6 zu6 K4 hK4
 have E7 := Sc.mk ((Upd.refl (fun _ => False) w0).nx u6)
 refine go ?_
 refine q_p (fun g12 => ?_) fun g12 => ?_
 ·
  refine go ?_
  refine g_i k (hx.keep E7.u (fun _ h => h)) (fun _ => ?_)
  refine go ?_
  refine q_p (fun g19 => ?_) fun g19 => ?_
  ·
   refine go ?_
   refine f_1 results37 ?_
   exact ⟨congrArg (Value.int .i64) (by rw [hcm, drop_nth (show k < xs.length by omega), List.drop_eq_nil_of_le (show ys.length ≤ k by omega), cmpL]), u_d⟩
  refine go ?_
  refine g_i k (hy.keep E7.u (fun _ h => h)) (fun _ => ?_)
  refine go ?_
  refine x_c func93 rfl rfl (cmpI_c (nth xs k) (nth ys k) _) ?_
  rintro _ w20 ⟨⟨rfl, _⟩, u21⟩ zu21
  refine go ?_
  refine q_p (fun g28 => ?_) fun g28 => ?_
  ·
   refine go ?_
   refine f_1 results37 ?_
   exact ⟨congrArg (Value.int .i64) (by rw [hcm, drop_nth (show k < xs.length by omega), drop_nth (show k < ys.length by omega), cmpL, if_pos (by omega)]), u_d⟩
  refine go ?_
  exact hK4 (k + 1) ⟨(by omega), (by omega), (by rw [hcm, drop_nth (show k < xs.length by omega), drop_nth (show k < ys.length by omega), cmpL, if_neg (by omega)])⟩
 refine go ?_
 refine q_p (fun g35 => ?_) fun g35 => ?_
 ·
  refine go ?_
  refine f_1 results37 ?_
  exact ⟨congrArg (Value.int .i64) (by rw [hcm, List.drop_eq_nil_of_le (show xs.length ≤ k by omega), drop_nth (show k < ys.length by omega), cmpL]), u_d⟩
 refine go ?_
 refine f_1 results37 ?_
 exact ⟨congrArg (Value.int .i64) (by rw [hcm, List.drop_eq_nil_of_le (show xs.length ≤ k by omega), List.drop_eq_nil_of_le (show ys.length ≤ k by omega), cmpL]), u_d⟩

theorem better_c (xs : List Int) (ax : Option Addr) (bx ox cx : Nat) (ys : List Int) (ay : Option Addr) (by_ oy cy : Nat) (ga gb : Int) (w0 : World) (hx : Sl encI 1 w0 ax bx ox xs) (hy : Sl encI 1 w0 ay by_ oy ys) (hxl : xs.length ≤ 1000000) (hyl : ys.length ≤ 1000000) :
    CallsV Tryz.prog 52 [.agg #[.slice ax xs.length cx, .int .i64 ga], .agg #[.slice ay ys.length cy, .int .i64 gb]] w0 (fun v w' => v = .bool (btr xs ga ys gb) ∧ Ext w0 w') := by
 refine f_n func52 ?_
 refine go ?_
 refine x_b fun bk2 w3 ebk2 sbk2 B4 u5 => ?_
 refine x_b fun bk7 w8 ebk7 sbk7 B9 u10 => ?_
 refine go ?_
 refine c_drawnM follows (fun _ => False) (OTl [0, 2, 4, 6, 10, 12, 14, 16, 18, 20, 24, 26, 28, 30, 9, 23, 33, 35, 37, 38, 40]) (by kernel_rfl) fun w13 u14 => ?_
 have zu14 := u14.size
 refine go ?_
 refine x_c func93 rfl rfl (cmpI_c gb ga _) ?_
 rintro _ w17 ⟨⟨rfl, _⟩, u18⟩ zu18
 refine go ?_
 refine x_c func93 rfl rfl (cmpI_c (xs.length : Int) (ys.length : Int) _) ?_
 rintro _ w22 ⟨⟨rfl, _⟩, u23⟩ zu23
 have E25 := Sc.mk ((((((Upd.refl (fun _ => False) w0).nx u5).nx u10).nx u14).nx u18).nx u23)
 refine go ?_
 refine x_c func37 rfl rfl (compareL_c xs ax bx ox cx ys ay by_ oy cy _ (hx.keep E25.u (fun _ h => h)) (hy.keep E25.u (fun _ h => h)) hxl hyl) ?_
 rintro _ w27 ⟨rfl, u28⟩ zu28
 refine go ?_
 refine x_l fun bk31 w32 ebk31 sbk31 B33 u34 => ?_
 refine go ?_
 refine x_c func114 rfl rfl (or3_c (cmpI3 gb ga) (cmpI3 (xs.length : Int) (ys.length : Int)) (cmpL xs ys) bk31 _ B33) ?_
 rintro _ w37 ⟨⟨rfl, _⟩, u38⟩ zu38
 refine go ?_
 refine f_1 results52 ?_
 exact ⟨rfl, u_d⟩

theorem reach_c (h : Hul) (x : Off) (w0 : World) (hh : okHul h) (hx : okOff x = true) :
    CallsV Tryz.prog 50 [.agg #[.int .i64 h.p, .int .i64 h.m, .int .i64 h.s, .int .i64 h.c], .agg #[.int .i64 x.f, .int .i64 x.t, .int .i64 x.b, .int .i64 x.e, .int .i64 x.p]] w0 (fun v w' => v = .tuple #[.int .i64 (farH h x * h.c), .bool (decide (h.m + farH h x * h.s ≤ x.b))] ∧ Ext w0 w') := by
 obtain ⟨hp1, hp2, hp3, hp4⟩ := hh
 have hx7 := hx
 unfold okOff at hx7
 rw [decide_eq_true_eq] at hx7
 have h7 : 0 ≤ max (h.p - x.f) (x.f - h.p) ∧ max (h.p - x.f) (x.f - h.p) ≤ 100000 := by omega
 have h8 := Int.mul_le_mul h7.2 hp3.2 hp3.1 (by omega)
 have h9 := Int.mul_nonneg h7.1 hp3.1
 have h8c := Int.mul_le_mul h7.2 hp4.2 hp4.1 (by omega)
 have h9c := Int.mul_nonneg h7.1 hp4.1
 refine f_n func50 ?_
 refine go ?_
 refine x_b fun bk2 w3 ebk2 sbk2 B4 u5 => ?_
 refine x_b fun bk7 w8 ebk7 sbk7 B9 u10 => ?_
 refine go ?_
 refine t_max rfl rfl rfl rfl ?_
 refine go ?_
 refine c_drawnM follows (fun _ => False) (OTl [0, 2, 4, 6, 8, 10, 12, 14, 16, 18, 20, 22, 24, 26, 28, 30]) (by kernel_rfl) fun w14 u15 => ?_
 have zu15 := u15.size
 refine go ?_
 refine f_ret2 (v1 := .int .i64 ((max (h.p - x.f) (x.f - h.p)) * h.c)) (v2 := .bool (decide ((h.m + ((max (h.p - x.f) (x.f - h.p)) * h.s)) ≤ x.b))) results50 rfl rfl ?_
 exact ⟨rfl, u_d⟩

theorem after_c (h : Hul) (x : Off) (w0 : World) :
    CallsV Tryz.prog 54 [.agg #[.int .i64 h.p, .int .i64 h.m, .int .i64 h.s, .int .i64 h.c], .agg #[.int .i64 x.f, .int .i64 x.t, .int .i64 x.b, .int .i64 x.e, .int .i64 x.p]] w0 (fun v w' => v = .agg #[.int .i64 x.t, .int .i64 x.e, .int .i64 h.s, .int .i64 h.c] ∧ Ext w0 w') := by
 refine f_n func54 ?_
 refine go ?_
 refine x_b fun bk2 w3 ebk2 sbk2 B4 u5 => ?_
 refine x_b fun bk7 w8 ebk7 sbk7 B9 u10 => ?_
 refine x_n fun bk12 w13 ebk12 sbk12 B14 u15 => ?_
 refine go ?_
 refine c_drawnM follows (fun i => i = bk2) (OTl [0, 2, 4, 6, 8, 11, 12, 15]) (by kernel_rfl) fun w18 u19 => ?_
 have zu19 := u19.size
 refine go ?_
 refine x_s fun w21 sw21 B23 u22 => ?_
 refine go ?_
 refine x_s fun w25 sw25 B27 u26 => ?_
 refine go ?_
 refine x_s fun w30 sw30 B32 u31 => ?_
 refine go ?_
 refine f_ret1 (v := .agg #[.int .i64 x.t, .int .i64 x.e, .int .i64 h.s, .int .i64 h.c]) results54 ⟨_, _, rfl, run_loadVarN (vs := [.int .i64 x.t, .int .i64 x.e, .int .i64 h.s, .int .i64 h.c]) isAgg146 sizeOf146 rfl (B32.at.sub 0 4)⟩ ?_
 exact ⟨rfl, u_d⟩

end Go.Proofs.YtclinbbghnebaaaGreat
namespace Go.Proofs.YtclinbbghnebaaaGreat
open Go Go.RowKit Go.Proofs.Tryz
set_option maxRecDepth 10000

/-- What happened but stops, by kinds. -/
def onS (l : List Msg) : Nat → List (Int × Msg)
  | 0 => []
  | k + 1 => if (nth l k).k = 2 ∨ (nth l k).k = 3 then onS l k else upG (onS l k) (nth l k).k (nth l k)
def onErr (l : List Msg) (k : Nat) : Prop := ¬ ((nth l k).k = 2 ∨ (nth l k).k = 3) ∧ ∃ o, gtG (onS l k) (nth l k).k = some o
/-- The last fact, and the times that are excepted. -/
structure OpS where
  la : Int
  ex : List Fre
def opEx (en : Int) (ex : List Fre) (m : Msg) : List Fre := if m.k = 2 then ex ++ [⟨m.m, max en m.m⟩] else if m.k = 3 then ex.set (ex.length - 1) ⟨(nth ex (ex.length - 1)).f, m.m⟩ else ex
def opS (en : Int) (fr : List Fre) (l : List Msg) : Nat → OpS
  | 0 => ⟨0, fr⟩
  | k + 1 => if 4 < (nth l k).k then opS en fr l k else ⟨(nth l k).k, opEx en (opS en fr l k).ex (nth l k)⟩
def opGo (la k : Int) : Prop := (k = 1 ∧ la = 0) ∨ (k = 2 ∧ (la = 1 ∨ la = 3)) ∨ (k = 3 ∧ la = 2) ∨ (k = 4 ∧ la ≠ 0)
def opBad (en : Int) (fr : List Fre) (l : List Msg) (k : Nat) : Prop := ¬ 4 < (nth l k).k ∧ (¬ opGo (opS en fr l k).la (nth l k).k ∨ (opS en fr l k).la = 4)
theorem Acc.neBlk {α : Type} {enc : α → List Value} {k : Nat} {e t : TypeId} {base : Nat} {w : World} {ao : Option Addr} {g cap b : Nat} {xs : List α} {cs : List Value} (h : Acc enc k e base w ao g cap xs) (hB : Blk w b t cs) (hne : t ≠ e) (hb : base ≤ g) : g ≠ b := by
  rcases h.at_ with ⟨_, _, _, h4⟩ | ⟨_, _, cur, h1, _⟩
  · omega
  · intro q
    subst q
    unfold Blk at hB
    rw [h1] at hB
    simp only [Option.some.injEq, Obj.cells.injEq] at hB
    exact hne hB.2.1.symm
def OpE (fr : List Fre) (l : List Msg) (e : Int) : Prop := (e = 6 ∧ ∃ k, k < l.length ∧ onErr l k) ∨ (e = 7 ∧ (∀ k, k < l.length → ¬ onErr l k) ∧ (gtG (onS l l.length) 1 = none ∨ gtG (onS l l.length) 4 = none)) ∨
  (e = 9 ∧ (∀ k, k < l.length → ¬ onErr l k) ∧ ∃ n1 en, gtG (onS l l.length) 1 = some n1 ∧ gtG (onS l l.length) 4 = some en ∧ ∃ k, k < l.length ∧ opBad en.m fr l k)
def OpOk (fr : List Fre) (l : List Msg) (ex : List Fre) : Prop := (∀ k, k < l.length → ¬ onErr l k) ∧ ∃ n1 en, gtG (onS l l.length) 1 = some n1 ∧ gtG (onS l l.length) 4 = some en ∧ (∀ k, k < l.length → ¬ opBad en.m fr l k) ∧ ex = (opS en.m fr l l.length).ex
end Go.Proofs.YtclinbbghnebaaaGreat
namespace Go.Proofs.YtclinbbghnebaaaGreat
open Go Go.RowKit Go.Proofs.Tryz
set_option maxRecDepth 10000

theorem upG_mem {α β : Type} [DecidableEq α] {m : List (α × β)} {a : α} {v : β} {p : α × β} (h : p ∈ upG m a v) : p ∈ m ∨ p = (a, v) := by
  unfold upG at h
  split at h
  · rcases List.mem_append.1 h with h | h
    · exact .inl h
    · exact .inr (List.mem_singleton.1 h)
  · exact List.mem_or_eq_of_mem_set h
theorem laS_mem {l : List Msg} : ∀ {k : Nat} {p : (Int × Int) × Msg}, k ≤ l.length → p ∈ laS l k → p.2 ∈ l
  | 0, _, _, h => by cases h
  | k + 1, p, hk, h => by
    unfold laS at h
    split at h
    · rcases upG_mem h with h | h
      · exact laS_mem (by omega) h
      · rw [h]; exact nth_mem (by omega)
    · exact laS_mem (by omega) h
theorem RdR.facts {l out : List Msg} (h : RdR l out 0) : (∀ x ∈ out, x ∈ l) ∧ out.length ≤ l.length ∧ rdE l = 0 := by
  rcases h with ⟨h1, h2, _⟩ | ⟨_, h2, _⟩ | ⟨h0, _, _, hp, _⟩
  · omega
  · omega
  · refine ⟨fun x hx => ?_, ?_, h0⟩
    · obtain ⟨p, hm, rfl⟩ := List.mem_map.1 (List.mem_filter.1 (hp.mem_iff.1 hx)).1
      exact laS_mem (Nat.le_refl _) hm
    · rw [hp.length_eq]
      refine Nat.le_trans (List.length_filter_le _ _) ?_
      rw [List.length_map]
      exact laS_len l l.length
def oneC (l : List Msg) : Bool := !(l.any fun x => decide (x.c ≠ (nth l 0).c))
/-- Why there is no call. -/
def SgE (c : Chr) (ws : List Low) (fr : List Fre) (l : List Msg) (e : Int) : Prop := (chkCh c ws ≠ 0 ∧ e = chkCh c ws) ∨ (chkCh c ws = 0 ∧ chkFr fr ≠ 0 ∧ e = chkFr fr) ∨ (chkCh c ws = 0 ∧ chkFr fr = 0 ∧ e ≠ 0 ∧ ∃ o, RdR l o e) ∨
  (chkCh c ws = 0 ∧ chkFr fr = 0 ∧ ∃ out, RdR l out 0 ∧ ((oneC l = false ∧ e = 4) ∨ (oneC l = true ∧ OpE fr out e)))
end Go.Proofs.YtclinbbghnebaaaGreat
namespace Go.Proofs
open Go.Shelf
end Go.Proofs
namespace Go.Proofs.YtclinbbghnebaaaGreat
open Go Go.RowKit Go.Proofs.Tryz
set_option maxRecDepth 10000

/-- Free times within bounds: their begins can be subtracted. -/
structure FrB where
  v : Fre
  h : 0 ≤ v.f ∧ v.f ≤ 100000
instance : Inhabited FrB := ⟨⟨⟨0, 0⟩, by decide⟩⟩
def cmpFr (a b : Fre) : Int := a.f - b.f
theorem Acc.map {α β : Type} {f : α → β} {enc : β → List Value} {k : Nat} {e : TypeId} {base : Nat} {w : World} {ao : Option Addr} {g cap : Nat} {zs : List α} : Acc (fun x => enc (f x)) k e base w ao g cap zs ↔ Acc enc k e base w ao g cap (zs.map f) := by
  constructor
  · rintro ⟨h1, h2⟩
    exact ⟨h1, by simpa [List.flatMap_map] using h2⟩
  · rintro ⟨h1, h2⟩
    exact ⟨h1, by simpa [List.flatMap_map] using h2⟩
end Go.Proofs.YtclinbbghnebaaaGreat
namespace Go.Proofs.YtclinbbghnebaaaGreat
open Go Go.RowKit Go.Proofs.Tryz
set_option maxRecDepth 10000

/-- Laytime that is used, and the minute that it has come to. -/
structure CtS where
  u : Int
  a : Int
def ctUse (L en : Int) (s : CtS) (f : Fre) : Int := min (max 0 (min f.f en - s.a)) (L - s.u)
def ctStep (L en : Int) (s : CtS) (f : Fre) : CtS := if s.u = L then s else ⟨s.u + ctUse L en s f, if s.u + ctUse L en s f < L then max (s.a + ctUse L en s f) (min f.t en) else s.a + ctUse L en s f⟩
def ctS (L en b : Int) (fs : List Fre) : Nat → CtS
  | 0 => ⟨0, b⟩
  | k + 1 => ctStep L en (ctS L en b fs k) (nth fs k)
structure Lc where
  b : Int
  u : Int
  o : Int
  s : Int
/-- Laytime counted. -/
def cntP (L en b : Int) (ys : List Fre) : Lc :=
  let s := ctS L en b (ys ++ [⟨en, en⟩]) (ys.length + 1)
  let o := if s.u = L then max 0 (en - s.a) else 0
  ⟨b, s.u, o, if o = 0 then L - s.u else 0⟩
end Go.Proofs.YtclinbbghnebaaaGreat
namespace Go.Proofs.YtclinbbghnebaaaGreat
open Go Go.RowKit Go.Proofs.Tryz
set_option maxRecDepth 10000

theorem okCh_rng {c : Chr} {ws : List Low} (h : chkCh c ws = 0) : ws.length ≤ 10 ∧ ((0 ≤ c.s ∧ c.s ≤ 99) ∧ (0 ≤ c.c ∧ c.c ≤ 99) ∧ (0 ≤ c.k ∧ c.k ≤ 99)) ∧ (0 ≤ c.r ∧ c.r ≤ 1000000) ∧ (0 ≤ c.n ∧ c.n ≤ 1000000) ∧ ((0 ≤ c.l ∧ c.l ≤ 100000) ∧ (0 ≤ c.o ∧ c.o ≤ 100000)) ∧ ((0 ≤ c.d ∧ c.d ≤ 100000000) ∧ (0 ≤ c.e ∧ c.e ≤ 100000000)) ∧ (0 ≤ c.m ∧ c.m ≤ 100) := by
  unfold chkCh at h
  split at h
  · rename_i q
    unfold okCh at q
    rw [decide_eq_true_eq] at q
    exact q.2
  · omega
/-- What Laytime returns. -/
def LtR (c : Chr) (ws : List Low) (fr : List Fre) (l : List Msg) (lc : Lc) (e : Int) : Prop := (e ≠ 0 ∧ SgE c ws fr l e ∧ lc = ⟨0, 0, 0, 0⟩) ∨ (e = 0 ∧ chkCh c ws = 0 ∧ chkFr fr = 0 ∧ oneC l = true ∧ ∃ out ex n1 en ys, RdR l out 0 ∧ OpOk fr out ex ∧ gtG (onS out out.length) 1 = some n1 ∧ gtG (onS out out.length) 4 = some en ∧ List.Perm ys ex ∧ Asc cmpFr ys ∧ lc = cntP c.l en.m (n1.m + c.o) ys)
/-- The percent of the bonus at a level. -/
def pctP (ws : List Low) (lv : Int) : Int := match ws.find? fun x => decide (lv < x.b) with
  | none => 0
  | some x => x.p
end Go.Proofs.YtclinbbghnebaaaGreat
namespace Go.Proofs.YtclinbbghnebaaaGreat
open Go Go.RowKit Go.Proofs.Tryz
set_option maxRecDepth 10000

structure Bl where
  f : Int
  o : Int
  d : Int
  e : Int
  c : Int
  t : Int
def lvP (m : List (Int × Msg)) : Int := match gtG m 6 with
  | none => 0
  | some x => x.v
/-- A call settled. -/
def blP (c : Chr) (ws : List Low) (tv lv : Int) (lc : Lc) : Bl :=
  ⟨c.r * max tv c.n, rnd2 (c.r * max tv c.n * pctP ws lv) 100, rnd2 (lc.o * c.d) 1440, rnd2 (lc.s * c.e) 1440, rnd2 ((c.r * max tv c.n + rnd2 (c.r * max tv c.n * pctP ws lv) 100) * c.m) 100,
    c.r * max tv c.n + rnd2 (c.r * max tv c.n * pctP ws lv) 100 + rnd2 (lc.o * c.d) 1440 - rnd2 (lc.s * c.e) 1440⟩
/-- What bill returns. -/
def BlR (c : Chr) (ws : List Low) (ex : List Fre) (m : List (Int × Msg)) (n1 en : Msg) (b : Bl) (e : Int) : Prop := (e = 7 ∧ b = ⟨0, 0, 0, 0, 0, 0⟩ ∧ (gtG m 5 = none ∨ (gtG m 6 = none ∧ 0 < ws.length))) ∨
  (e = 0 ∧ ∃ t5 ys, gtG m 5 = some t5 ∧ (gtG m 6 = none → ws.length = 0) ∧ List.Perm ys ex ∧ Asc cmpFr ys ∧ b = blP c ws t5.v (lvP m) (cntP c.l en.m (n1.m + c.o) ys))

end Go.Proofs.YtclinbbghnebaaaGreat
namespace Go.Proofs.YtclinbbghnebaaaGreat
open Go Go.RowKit Go.Proofs.Tryz
set_option maxRecDepth 10000

/-- What Bill returns. -/
def BiR (c : Chr) (ws : List Low) (fr : List Fre) (l : List Msg) (b : Bl) (e : Int) : Prop := (e ≠ 0 ∧ SgE c ws fr l e ∧ b = ⟨0, 0, 0, 0, 0, 0⟩) ∨ (chkCh c ws = 0 ∧ chkFr fr = 0 ∧ oneC l = true ∧ ∃ out ex n1 en, RdR l out 0 ∧ OpOk fr out ex ∧ gtG (onS out out.length) 1 = some n1 ∧ gtG (onS out out.length) 4 = some en ∧ BlR c ws ex (onS out out.length) n1 en b e)

end Go.Proofs.YtclinbbghnebaaaGreat
namespace Go.Proofs.YtclinbbghnebaaaGreat
open Go Go.RowKit
set_option maxRecDepth 10000

def sumN : List Bid → Int
  | [] => 0
  | x :: l => x.n + sumN l
/-- The state of the matching: tons that are left, both queues, the trades. -/
structure MtS where
  l : Int
  zb : List Bid
  ib : Nat
  za : List Bid
  ia : Nat
  ts : List Trd
def mtN (s : MtS) : Int := min (min s.l (nth s.zb s.ib).n) (nth s.za s.ia).n
def mtStep (s : MtS) : MtS := ⟨s.l - mtN s, takeZ s.zb s.ib (mtN s), takeI s.zb s.ib (mtN s), takeZ s.za s.ia (mtN s), takeI s.za s.ia (mtN s), s.ts ++ [⟨(nth s.zb s.ib).p, (nth s.za s.ia).p, mtN s⟩]⟩
structure MtOk (nb na : Nat) (s : MtS) : Prop where
  l0 : 0 ≤ s.l
  sb : s.l ≤ sumN (s.zb.drop s.ib)
  sa : s.l ≤ sumN (s.za.drop s.ia)
  ob : ∀ x ∈ s.zb.drop s.ib, 1 ≤ x.n ∧ x.n ≤ 1000000
  oa : ∀ x ∈ s.za.drop s.ia, 1 ≤ x.n ∧ x.n ≤ 1000000
  qb : s.zb.length = nb
  qa : s.za.length = na
  ib : s.ib ≤ nb
  ia : s.ia ≤ na
  tl : 0 < s.l → s.ts.length ≤ s.ib + s.ia
theorem head_lt {zs : List Bid} {i : Nat} {l : Int} (h0 : 0 < l) (h : l ≤ sumN (zs.drop i)) : i < zs.length := by
  rcases Nat.lt_or_ge i zs.length with q | q
  · exact q
  · rw [List.drop_eq_nil_of_le q] at h; simp only [sumN] at h; omega
theorem take_ok {zs : List Bid} {i : Nat} {t : Int} (hi : i < zs.length) (h1 : ∀ x ∈ zs.drop i, 1 ≤ x.n ∧ x.n ≤ 1000000) (ht : 1 ≤ t ∧ t ≤ (nth zs i).n) :
    sumN ((takeZ zs i t).drop (takeI zs i t)) = sumN (zs.drop i) - t ∧ (∀ x ∈ (takeZ zs i t).drop (takeI zs i t), 1 ≤ x.n ∧ x.n ≤ 1000000) ∧ takeI zs i t ≤ zs.length ∧ i ≤ takeI zs i t ∧ ((nth zs i).n = t → takeI zs i t = i + 1) := by
  have e1 := drop_nth hi
  have hd : (takeZ zs i t).drop (i + 1) = zs.drop (i + 1) := by simp [takeZ, List.drop_set]
  rw [e1] at h1
  have hx := h1 (nth zs i) (by simp)
  by_cases q : (nth zs i).n - t = 0
  · have hI : takeI zs i t = i + 1 := if_pos q
    rw [hI, hd, e1]
    exact ⟨by simp only [sumN]; omega, fun x h => h1 x (List.mem_cons_of_mem _ h), by omega, by omega, fun _ => rfl⟩
  · have hI : takeI zs i t = i := if_neg q
    have e2 := drop_nth (xs := takeZ zs i t) (i := i) (by rw [takeZ_len]; exact hi)
    rw [hI, e2, takeZ_nth hi, hd, e1]
    refine ⟨by simp only [sumN, takeB]; omega, fun x h => ?_, by omega, by omega, fun h => by omega⟩
    rcases List.mem_cons.1 h with rfl | h
    · simp only [takeB]; omega
    · exact h1 x (List.mem_cons_of_mem _ h)
theorem MtOk.heads {nb na : Nat} {s : MtS} (h : MtOk nb na s) (h0 : 0 < s.l) : s.ib < s.zb.length ∧ s.ia < s.za.length ∧ (1 ≤ (nth s.zb s.ib).n ∧ (nth s.zb s.ib).n ≤ 1000000) ∧ (1 ≤ (nth s.za s.ia).n ∧ (nth s.za s.ia).n ≤ 1000000) ∧ 1 ≤ mtN s ∧ mtN s ≤ s.l ∧ mtN s ≤ (nth s.zb s.ib).n ∧ mtN s ≤ (nth s.za s.ia).n ∧ (mtN s = s.l ∨ (nth s.zb s.ib).n = mtN s ∨ (nth s.za s.ia).n = mtN s) := by
  have h1 := head_lt h0 h.sb
  have h2 := head_lt h0 h.sa
  have h3 := h.ob (nth s.zb s.ib) (by rw [drop_nth h1]; simp)
  have h4 := h.oa (nth s.za s.ia) (by rw [drop_nth h2]; simp)
  unfold mtN
  omega
theorem MtOk.step {nb na : Nat} {s : MtS} (h : MtOk nb na s) (h0 : 0 < s.l) : MtOk nb na (mtStep s) := by
  obtain ⟨h1, h2, h3, h4, h5, h6, h7, h8, h9⟩ := h.heads h0
  obtain ⟨b1, b2, b3, b4, b5⟩ := take_ok h1 h.ob ⟨h5, h7⟩
  obtain ⟨a1, a2, a3, a4, a5⟩ := take_ok h2 h.oa ⟨h5, h8⟩
  have hsb := h.sb
  have hsa := h.sa
  have hnb := h.qb
  have hna := h.qa
  have htl := h.tl h0
  exact ⟨by show 0 ≤ s.l - mtN s; omega, by show s.l - mtN s ≤ _; exact b1 ▸ (by omega), by show s.l - mtN s ≤ _; exact a1 ▸ (by omega), b2, a2, by simp only [mtStep, takeZ_len]; exact hnb, by simp only [mtStep, takeZ_len]; exact hna,
    by simp only [mtStep]; omega, by simp only [mtStep]; omega, fun q => by
      simp only [mtStep, List.length_append, List.length_singleton] at q ⊢
      rcases h9 with e | e | e
      · omega
      · have := b5 e; omega
      · have := a5 e; omega⟩
end Go.Proofs.YtclinbbghnebaaaGreat
namespace Go.Proofs.YtclinbbghnebaaaGreat
open Go Go.RowKit
set_option maxRecDepth 10000

theorem Sl.ofBlk {α : Type} [Inhabited α] {enc : α → List Value} {k : Nat} (hk : ∀ x, (enc x).length = k) {w : World} {b : Nat} {t : TypeId} {xs : List α} (h : Blk w b t (xs.flatMap enc)) : Sl enc k w (some ⟨b, 0, none⟩) b 0 xs :=
  ⟨fun _ => rfl, fun _ => h.lt, fun i hi j v hv => by
    have h1 := flatMap_at hk xs i j v hi hv
    rw [Nat.zero_add]
    exact h.get h1⟩
section
variable {P : Program} {ops : Array Oper} {Q : Exit → Act → World → Prop} {N : Nat} {ds : List Deferred} {rest : List Oper} {L : Slots} {w : World} {rd : Option Nat} {d : Nat} {ty : TypeId} {pos : String} {aft : Array Edge} {g : Option (Nat × Bool)}
end



end Go.Proofs.YtclinbbghnebaaaGreat
namespace Go.Proofs.YtclinbbghnebaaaGreat
open Go Go.RowKit
set_option maxRecDepth 10000

/-- An element goes down while it is less. -/
def insJ (c : Int → Int → Int) : List Int → Nat → List Int
  | ds, 0 => ds
  | ds, j + 1 => if c (nth ds (j + 1)) (nth ds j) < 0 then insJ c ((ds.set (j + 1) (nth ds j)).set j (nth ds (j + 1))) j else ds
def insI (c : Int → Int → Int) (ds : List Int) : Nat → List Int
  | 0 => ds
  | k + 1 => insJ c (insI c ds k) (k + 1)
theorem swp_perm {ds : List Int} {j : Nat} (h : j + 1 < ds.length) : ((ds.set (j + 1) (nth ds j)).set j (nth ds (j + 1))).Perm ds := by
  rw [nth_eq h, nth_eq (show j < ds.length by omega)]
  exact List.set_set_perm h (by omega)
theorem insJ_perm (c : Int → Int → Int) : ∀ (j : Nat) (ds : List Int), j < ds.length → (insJ c ds j).Perm ds
  | 0, _, _ => List.Perm.refl _
  | j + 1, ds, h => by
    unfold insJ
    split
    · exact (insJ_perm c j _ (by rw [List.length_set, List.length_set]; omega)).trans (swp_perm h)
    · exact List.Perm.refl _
theorem insI_perm (c : Int → Int → Int) (ds : List Int) : ∀ k, k < ds.length ∨ k = 0 → (insI c ds k).Perm ds
  | 0, _ => List.Perm.refl _
  | k + 1, h => by
    have h1 := insI_perm c ds k (.inl (by omega))
    exact (insJ_perm c (k + 1) _ (by rw [h1.length_eq]; omega)).trans h1
/-- The first k numbers are their own place. -/
def fillK (n : Nat) : Nat → List Int
  | 0 => List.replicate n 0
  | k + 1 => (fillK n k).set k (k : Int)
theorem fillK_len (n : Nat) : ∀ k, (fillK n k).length = n
  | 0 => by simp [fillK]
  | k + 1 => by simp [fillK, fillK_len n k]
theorem fillK_nth {n : Nat} : ∀ {k i : Nat}, i < n → k ≤ n → nth (fillK n k) i = if i < k then (i : Int) else 0
  | 0, i, h, _ => by rw [fillK, nth_eq (by simpa using h)]; simp
  | k + 1, i, h, hk => by
    have e : nth (fillK n (k + 1)) i = if k = i then (k : Int) else nth (fillK n k) i := by
      rw [fillK, nth_eq (by rw [List.length_set, fillK_len]; exact h), List.getElem_set, nth_eq (by rw [fillK_len]; exact h)]
    rw [e, fillK_nth h (by omega)]
    by_cases q : k = i
    · rw [if_pos q, if_pos (by omega), q]
    · rw [if_neg q]
      by_cases q2 : i < k
      · rw [if_pos q2, if_pos (by omega)]
      · rw [if_neg q2, if_neg (by omega)]
def iotaL (n : Nat) : List Int := fillK n n
theorem iotaL_len (n : Nat) : (iotaL n).length = n := fillK_len n n
theorem iotaL_nth {n i : Nat} (h : i < n) : nth (iotaL n) i = (i : Int) := by
  unfold iotaL; rw [fillK_nth h (Nat.le_refl _), if_pos h]
theorem iotaL_mem {n : Nat} {x : Int} (h : x ∈ iotaL n) : 0 ≤ x ∧ x < (n : Int) := by
  obtain ⟨i, hi, rfl⟩ := List.mem_iff_getElem.1 h
  rw [iotaL_len] at hi
  have := iotaL_nth hi
  rw [nth_eq (by rw [iotaL_len]; exact hi)] at this
  omega
/-- The order of offers: that of their begins. -/
def cmpO (l : List Off) (i k : Int) : Int := (nth l i.toNat).b - (nth l k.toNat).b
def ordP (l : List Off) : List Int := insI (cmpO l) (iotaL l.length) (l.length - 1)
theorem ordP_perm (l : List Off) : (ordP l).Perm (iotaL l.length) := insI_perm _ _ _ (by rw [iotaL_len]; omega)
theorem ordP_len (l : List Off) : (ordP l).length = l.length := by rw [(ordP_perm l).length_eq, iotaL_len]
theorem ordP_mem {l : List Off} {x : Int} (h : x ∈ ordP l) : 0 ≤ x ∧ x < (l.length : Int) := iotaL_mem ((ordP_perm l).mem_iff.1 h)
instance (h : Hul) : Decidable (okHul h) := by unfold okHul; infer_instance
/-- A run: offers one after another, and what they gain. -/
structure Rn where
  s : List Int
  g : Int
instance : Inhabited Rn := ⟨⟨[], 0⟩⟩
def aftH (h : Hul) (x : Off) : Hul := ⟨x.t, x.e, h.s, h.c⟩
def nxR (l : List Off) (h : Hul) (fr : List Rn) (now : Rn) (i : Int) : Rn := ⟨now.s ++ (nth fr i.toNat).s, now.g + (nth fr i.toNat).g - farH h (nth l i.toNat) * h.c⟩
abbrev inT (l : List Off) (h : Hul) (i : Int) : Prop := h.m + farH h (nth l i.toNat) * h.s ≤ (nth l i.toNat).b
def bstOk (l : List Off) (h : Hul) (fr : List Rn) (now out : Rn) (i : Int) : Prop := inT l h i ∧ btr (nxR l h fr now i).s (nxR l h fr now i).g out.s out.g = true
instance (l : List Off) (h : Hul) (fr : List Rn) (now out : Rn) (i : Int) : Decidable (bstOk l h fr now out i) := inferInstanceAs (Decidable (_ ∧ _))
def bstStep (l : List Off) (h : Hul) (fr : List Rn) (now out : Rn) (i : Int) : Rn := if bstOk l h fr now out i then nxR l h fr now i else out
/-- The best run of the first k later offers. -/
def bstK (l : List Off) (h : Hul) (fr : List Rn) (now : Rn) (later : List Int) : Nat → Rn
  | 0 => now
  | k + 1 => bstStep l h fr now (bstK l h fr now later k) (nth later k)
def bstP (l : List Off) (h : Hul) (fr : List Rn) (now : Rn) (later : List Int) : Rn := bstK l h fr now later later.length
/-- The best runs that begin with each of the last t offers. -/
def tabT (l : List Off) (h : Hul) (ord : List Int) : Nat → List Rn
  | 0 => List.replicate l.length ⟨[], 0⟩
  | t + 1 => (tabT l h ord t).set (nth ord (l.length - (t + 1))).toNat (bstP l (aftH h (nth l (nth ord (l.length - (t + 1))).toNat)) (tabT l h ord t) ⟨[nth ord (l.length - (t + 1))], (nth l (nth ord (l.length - (t + 1))).toNat).p⟩ (ord.drop (l.length - t)))
theorem tabT_len (l : List Off) (h : Hul) (ord : List Int) : ∀ t, (tabT l h ord t).length = l.length
  | 0 => by simp [tabT]
  | t + 1 => by rw [tabT, List.length_set, tabT_len l h ord t]
/-- A run's gain and length are small. -/
def RnB (t : Nat) (r : Rn) : Prop := 0 ≤ r.g ∧ r.g ≤ 1000000000 * (r.s.length : Int) ∧ r.s.length ≤ t
theorem RnB.mono {t u : Nat} {r : Rn} (h : RnB t r) (q : t ≤ u) : RnB u r := ⟨h.1, h.2.1, by have := h.2.2; omega⟩
theorem btr_ge {a : List Int} {ga : Int} {b : List Int} {gb : Int} (h : btr a ga b gb = true) : gb ≤ ga := by
  unfold btr at h
  rw [decide_eq_true_eq, or3_lt, cmp_lt, cmp_eq] at h
  omega
theorem bstK_bd {l : List Off} {h : Hul} {fr : List Rn} {now : Rn} {later : List Int} {a t : Nat} (hl : ∀ x ∈ l, okOff x = true) (hh : okHul h) (hf : ∀ i, i < fr.length → RnB t (nth fr i)) (hn : RnB a now) (hm : ∀ i ∈ later, 0 ≤ i ∧ i < (l.length : Int)) (hfl : fr.length = l.length) :
    ∀ k, k ≤ later.length → RnB (a + t) (bstK l h fr now later k)
  | 0, _ => hn.mono (by omega)
  | k + 1, hk => by
    have h1 := bstK_bd hl hh hf hn hm hfl k (by omega)
    unfold bstK bstStep
    split
    · rename_i q
      have hi := hm _ (nth_mem (xs := later) (i := k) (by omega))
      have h2 := hf (nth later k).toNat (by omega)
      have h3 := btr_ge q.2
      have h4 := farH_rng hh (hl _ (nth_mem (xs := l) (i := (nth later k).toNat) (by omega)))
      have h5 : 0 ≤ farH h (nth l (nth later k).toNat) * h.c := Int.mul_nonneg h4.1 hh.2.2.2.1
      obtain ⟨n1, n2, n3⟩ := hn
      obtain ⟨f1, f2, f3⟩ := h2
      refine ⟨Int.le_trans h1.1 h3, ?_, ?_⟩
      · simp only [nxR, List.length_append]; omega
      · simp only [nxR, List.length_append]; omega
    · exact h1
theorem tabT_bd {l : List Off} {h : Hul} {ord : List Int} (hl : ∀ x ∈ l, okOff x = true) (hh : okHul h) (ho : ∀ i ∈ ord, 0 ≤ i ∧ i < (l.length : Int)) (hol : ord.length = l.length) : ∀ t, t ≤ l.length → ∀ i, i < l.length → RnB t (nth (tabT l h ord t) i)
  | 0, _, i, hi => by
    rw [tabT, nth_eq (by simpa using hi)]; simp [RnB]
  | t + 1, ht, i, hi => by
    have ih := tabT_bd hl hh ho hol t (by omega)
    have hq := ho _ (nth_mem (xs := ord) (i := l.length - (t + 1)) (by omega))
    have hx := hl _ (nth_mem (xs := l) (i := (nth ord (l.length - (t + 1))).toNat) (by omega))
    unfold okOff at hx
    rw [decide_eq_true_eq] at hx
    have hb := bstK_bd (a := 1) (t := t) (now := ⟨[nth ord (l.length - (t + 1))], (nth l (nth ord (l.length - (t + 1))).toNat).p⟩) (h := aftH h (nth l (nth ord (l.length - (t + 1))).toNat)) (later := ord.drop (l.length - t)) hl ⟨hx.1.2, hx.2.1.2, hh.2.2.1, hh.2.2.2⟩ (fun i h => ih i (by rw [tabT_len] at h; exact h))
      ⟨hx.2.2.2.1, by simpa using hx.2.2.2.2, by simp⟩ (fun i h => ho i (List.mem_of_mem_drop h)) (tabT_len _ _ _ _) (ord.drop (l.length - t)).length (Nat.le_refl _)
    rw [tabT, nth_eq (by rw [List.length_set, tabT_len]; exact hi), List.getElem_set]
    split
    · exact hb.mono (by omega)
    · have := ih i hi
      rw [nth_eq (by rw [tabT_len]; exact hi)] at this
      exact this.mono (by omega)
/-- What Best returns. -/
def bestP (l : List Off) (h : Hul) : Rn := bstP l h (tabT l h (ordP l) l.length) ⟨[], 0⟩ (ordP l)
def bestE (l : List Off) (h : Hul) : Int := if 12 < l.length then 5 else if (l.any fun x => !okOff x) = true then 2 else if ¬ okHul h then 3 else 0

end Go.Proofs.YtclinbbghnebaaaGreat
