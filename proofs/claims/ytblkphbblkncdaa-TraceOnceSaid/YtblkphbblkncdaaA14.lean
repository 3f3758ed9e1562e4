/-
  Tons in ports; the keys of a map, sorted. Conditions: none.
-/
import Derived.Test.YtblkphbblkncdaaA13
import Derived.Test.YtblkphbblkncdaaMii
import Derived.Test.YtblkphbblkncdaaSpi
namespace Go.Proofs.Ytblkphbblkncdaa
open Go Go.RowKit

/-! ### The library's sort -/
def srtI (xs : List Int) : List Int := xs.mergeSort fun x y => decide (x ≤ y)
theorem srtI_len (xs : List Int) : (srtI xs).length = xs.length := by unfold srtI; simp
theorem srtI_perm (xs : List Int) : (srtI xs).Perm xs := List.mergeSort_perm _ _
theorem srtI_asc (xs : List Int) : (srtI xs).Pairwise (fun a b => a ≤ b) := by
  have h := List.pairwise_mergeSort (le := fun (x y : Int) => decide (x ≤ y)) (fun a b c h1 h2 => by simp only [decide_eq_true_eq] at *; omega) (fun a b => by simp only [Bool.or_eq_true, decide_eq_true_eq]; omega) xs
  exact h.imp (fun h => by simpa using h)
theorem nth_toArrayI (xs : List Int) (i : Nat) : (xs.toArray)[i]! = nth xs i := by
  unfold nth
  rw [List.getD_eq_getElem?_getD]
  rcases Nat.lt_or_ge i xs.length with h | h
  · rw [getElem!_pos _ i (by simpa using h)]
    simp [h]
  · rw [getElem!_neg _ i (by simpa using h)]
    simp [List.getElem?_eq_none h]
theorem sortI_c {P : Program} {ρ : Go.Shelf.Ren} (Ly : Lays.n189 P ρ) (e base : Nat) (ao : Option Addr) (gb cap : Nat) (xs : List Int) (w : World) (ha : Acc encI 1 e base w ao gb cap xs) (hlen : xs.length ≤ 1000000) :
    CallsV P (ρ.f 189) [.slice ao xs.length cap] w fun v w' => v = .tuple #[] ∧ Acc encI 1 e base w' ao gb cap (srtI xs) ∧ Upd (fun i => i = gb ∧ base ≤ i) w w' := by
  rcases Nat.eq_zero_or_pos xs.length with h0 | h0
  · have : xs = [] := List.eq_nil_of_length_eq_zero h0
    subst this
    refine Calls.mono (Any.slices_Sort_int_none Ly ao cap w) ?_
    rintro e w' ⟨rfl, rfl⟩
    exact ⟨_, rfl, rfl, by simpa [srtI] using ha, Upd.refl _ _⟩
  · obtain ⟨hlt, h | ⟨h1, h2, cur, h3, h4, h5, h6, h7⟩⟩ := id ha
    · rw [h.2.1] at h0; simp at h0
    have hcell : ∀ j, j < xs.length → cur[j]? = some (.int .i64 (nth xs j)) := fun j hj => by
      have q := (ha.sl (fun _ => rfl)).at_ j hj 0 (.int .i64 (nth xs j)) rfl
      rw [Nat.zero_add, Nat.mul_one, Nat.add_zero] at q
      simp only [World.cell?, h3] at q
      simpa using q
    have hH : Go.Sort.Holds (Value.int .i64) w gb 0 xs.toArray := fun j hj => by
      have hj2 : j < xs.length := by simpa using hj
      refine ⟨?_, by simp [World.frozen?, h3]⟩
      rw [Nat.zero_add, nth_toArrayI]
      simp [World.cell?, h3, hcell j hj2]
    subst h1
    refine Calls.mono (Any.slices_Sort_int Ly gb 0 cap xs w hH hlt (by omega)) ?_
    rintro e w' ⟨rfl, n, os, rfl⟩
    have hsl : (srtI xs).length = xs.length := srtI_len xs
    refine ⟨_, rfl, rfl, ?_, ?_⟩
    · refine ⟨?_, .inr ⟨rfl, h2, Go.Sort.putCells (Value.int .i64) 0 (srtI xs).toArray cur, ?_, by rw [hsl]; exact h4, h5, by simp [Go.Sort.putCells, h6], ?_⟩⟩
      · simp only [Go.Sort.grow, Go.Sort.putRow, Go.Sort.mapBlock, Go.Sort.ahead]
        simp; omega
      · simp only [Go.Sort.grow, Go.Sort.putRow, Go.Sort.mapBlock, Go.Sort.ahead]
        rw [Array.getElem?_append_left (by simpa using hlt), Array.getElem?_modify]
        simp only [h3, if_pos]
        rfl
      · refine List.ext_getElem? fun t => ?_
        rw [Nat.mul_one, hsl]
        have hfl : (srtI xs).flatMap encI = (srtI xs).map (Value.int .i64) := by
          induction srtI xs with
          | nil => rfl
          | cons a l ih => rw [List.flatMap_cons, ih]; rfl
        rw [hfl, List.getElem?_map, List.getElem?_take]
        by_cases ht : t < xs.length
        · rw [if_pos ht, Array.getElem?_toList]
          simp only [Go.Sort.putCells]
          rw [Array.getElem?_mapIdx, hcell t ht]
          have hts : t < (srtI xs).length := by omega
          simp only [Option.map_some, Nat.zero_le, true_and, Nat.zero_add, Nat.sub_zero, List.size_toArray]
          rw [if_pos hts, nth_toArrayI, List.getElem?_eq_getElem hts, ← nth_eq hts]; rfl
        · rw [if_neg ht, List.getElem?_eq_none (by omega)]; rfl
    · refine ⟨rfl, rfl, rfl, ?_, fun i hi hn => ?_⟩
      · simp only [Go.Sort.grow, Go.Sort.putRow, Go.Sort.mapBlock, Go.Sort.ahead]; simp
      · simp only [Go.Sort.grow, Go.Sort.putRow, Go.Sort.mapBlock, Go.Sort.ahead]
        rw [Array.getElem?_append_left (by simpa using hi), Array.getElem?_modify]
        simp [show ¬ gb = i from fun e => hn ⟨e.symm, by omega⟩]
/-! ### The tons of a bill in each port -/
def portsM : List LG → Int → List (Int × Int) → List (Int × Int)
  | [], _, m => m
  | x :: l, b, m => portsM l b (if 0 < ofT (x.xs.map HLay.v) b then upI m x.port (lkI m x.port + ofT (x.xs.map HLay.v) b) else m)
theorem portsM_snoc {l : List LG} {k : Nat} {b : Int} (hk : k < l.length) : ∀ m, portsM (l.take (k + 1)) b m = (fun m' => if 0 < ofT ((nth l k).xs.map HLay.v) b then upI m' (nth l k).port (lkI m' (nth l k).port + ofT ((nth l k).xs.map HLay.v) b) else m') (portsM (l.take k) b m) := by
  have h : ∀ (l1 : List LG) (x : LG) m, portsM (l1 ++ [x]) b m = (fun m' => if 0 < ofT (x.xs.map HLay.v) b then upI m' x.port (lkI m' x.port + ofT (x.xs.map HLay.v) b) else m') (portsM l1 b m) := by
    intro l1 x
    induction l1 with
    | nil => intro m; rfl
    | cons y l1 ih => intro m; exact ih _
  intro m
  rw [take_nth hk]; exact h _ _ m
/-- Tons of a bill that were landed in a port. -/
def inL (b : Int) (P : Int → Bool) : List LG → Int
  | [] => 0
  | x :: l => (if P x.port = true then ofT (x.xs.map HLay.v) b else 0) + inL b P l
def inP (l : List LG) (b p : Int) : Int := inL b (fun q => decide (q = p)) l
theorem inL_snoc (b : Int) (P : Int → Bool) (l : List LG) (x : LG) : inL b P (l ++ [x]) = inL b P l + if P x.port = true then ofT (x.xs.map HLay.v) b else 0 := by
  induction l with
  | nil => simp [inL]
  | cons y l ih => rw [List.cons_append]; simp only [inL, ih]; omega
/-- The sum of some values of a map. -/
def sumIf (P : Int → Bool) : List (Int × Int) → Int
  | [] => 0
  | q :: m => (if P q.1 = true then q.2 else 0) + sumIf P m
theorem sumIf_app (P : Int → Bool) (m m' : List (Int × Int)) : sumIf P (m ++ m') = sumIf P m + sumIf P m' := by
  induction m with
  | nil => simp [sumIf]
  | cons q m ih => rw [List.cons_append]; simp only [sumIf, ih]; omega
theorem fI_none {m : List (Int × Int)} {a : Int} : ∀ i, fI m a i = none → ∀ p ∈ m, p.1 ≠ a := by
  induction m with
  | nil => intro i _ p hp; cases hp
  | cons q m ih =>
    intro i h p hp
    unfold fI at h
    split at h
    · cases h
    · rename_i e
      rcases List.mem_cons.1 hp with rfl | hp
      · exact fun e2 => e e2.symm
      · exact ih _ h p hp
theorem fI_shift {m : List (Int × Int)} {a : Int} : ∀ i, fI m a i = (fI m a 0).map fun p => (p.1 + i, p.2) := by
  induction m with
  | nil => intro i; rfl
  | cons q m ih =>
    intro i
    unfold fI
    split
    · simp
    · rw [ih (i + 1), ih (0 + 1)]
      cases fI m a 0 with
      | none => rfl
      | some p => simp; omega
theorem lkI_cons (q : Int × Int) (m : List (Int × Int)) (a : Int) : lkI (q :: m) a = if a = q.1 then q.2 else lkI m a := by
  unfold lkI
  by_cases h : a = q.1
  · simp [fI, h]
  · simp only [fI, if_neg h]
    rw [fI_shift]
    cases fI m a 0 with
    | none => rfl
    | some p => rfl
theorem upI_cons (q : Int × Int) (m : List (Int × Int)) (a v : Int) : upI (q :: m) a v = if a = q.1 then (a, v) :: m else q :: upI m a v := by
  unfold upI
  by_cases h : a = q.1
  · simp [fI, h]
  · simp only [fI, if_neg h]
    rw [fI_shift]
    cases fI m a 0 with
    | none => rfl
    | some p => simp
theorem lkI_upI (m : List (Int × Int)) (a v b : Int) : lkI (upI m a v) b = if b = a then v else lkI m b := by
  induction m with
  | nil => by_cases h : b = a <;> simp [upI, lkI, fI, h]
  | cons q m ih =>
    rw [upI_cons]
    by_cases h : a = q.1
    · rw [if_pos h, lkI_cons, lkI_cons]
      simp only []
      by_cases h2 : b = a
      · simp [h2]
      · rw [if_neg h2, if_neg h2, if_neg (by rw [← h]; exact h2)]
    · rw [if_neg h, lkI_cons, lkI_cons, ih]
      by_cases h2 : b = q.1
      · rw [if_pos h2, if_pos h2, if_neg (fun e => h (by rw [← e]; exact h2))]
      · rw [if_neg h2, if_neg h2]
theorem upI_keys (m : List (Int × Int)) (a v : Int) : (upI m a v).map (·.1) = if a ∈ m.map (·.1) then m.map (·.1) else m.map (·.1) ++ [a] := by
  induction m with
  | nil => rfl
  | cons q m ih =>
    rw [upI_cons]
    by_cases h : a = q.1
    · simp [h]
    · rw [if_neg h, List.map_cons, ih]
      by_cases h2 : a ∈ m.map (·.1)
      · rw [if_pos h2, if_pos (by rw [List.map_cons]; exact List.mem_cons_of_mem _ h2)]; rfl
      · rw [if_neg h2, if_neg (by rw [List.map_cons, List.mem_cons]; exact fun e => e.elim h h2)]; rfl
theorem sumT_append2 (l m : List Lay) : sumT (l ++ m) = sumT l + sumT m := sumT_append l m
theorem inP_cons (x : LG) (l : List LG) (b p : Int) : inP (x :: l) b p = (if x.port = p then ofT (x.xs.map HLay.v) b else 0) + inP l b p := by
  simp only [inP, inL, decide_eq_true_eq]
theorem inP_snoc (l : List LG) (x : LG) (b p : Int) : inP (l ++ [x]) b p = inP l b p + if x.port = p then ofT (x.xs.map HLay.v) b else 0 := by
  induction l with
  | nil => rw [List.nil_append, inP_cons]; simp [inP, inL]
  | cons y l ih => rw [List.cons_append, inP_cons, inP_cons, ih]; omega
/-- What the map of ports is. -/
structure PortOk (l : List LG) (b : Int) (m : List (Int × Int)) : Prop where
  val : ∀ p, lkI m p = inP l b p
  key : ∀ p, p ∈ m.map (·.1) ↔ 0 < inP l b p
  nd : (m.map (·.1)).Nodup
  rng : ∀ q ∈ m, 0 ≤ q.2 ∧ q.2 ≤ 1000000 * l.length
  sum : ∀ P, sumIf P m = inL b P l
  len : m.length ≤ l.length
theorem PortOk.nil {b : Int} : PortOk [] b [] := ⟨fun _ => rfl, fun p => by simp [inP, inL], List.nodup_nil, (fun q hq => by cases hq), fun P => rfl, Nat.le_refl _⟩
theorem inP_nonneg {l : List LG} {b p : Int} (h : ∀ x ∈ l, ∀ y ∈ x.xs, 0 ≤ y.v.tons) : 0 ≤ inP l b p := by
  induction l with
  | nil => simp [inP, inL]
  | cons x l ih =>
    rw [inP_cons]
    have h1 := ih (fun y hy => h y (by simp [hy]))
    have h2 := (ofT_le (b := b) (l := x.xs.map HLay.v) (fun y hy => by obtain ⟨z, hz, rfl⟩ := List.mem_map.1 hy; exact h x (by simp) z hz)).1
    split <;> omega
theorem upI_mem {m : List (Int × Int)} {a v : Int} : ∀ q ∈ upI m a v, q ∈ m ∨ q = (a, v) := by
  induction m with
  | nil => intro q hq; simp [upI, fI] at hq; exact .inr hq
  | cons r m ih =>
    intro q hq
    rw [upI_cons] at hq
    split at hq
    · rcases List.mem_cons.1 hq with h | h
      · exact .inr h
      · exact .inl (List.mem_cons_of_mem _ h)
    · rcases List.mem_cons.1 hq with h | h
      · exact .inl (by rw [h]; simp)
      · rcases ih q h with h | h
        · exact .inl (List.mem_cons_of_mem _ h)
        · exact .inr h
theorem lkI_rng {m : List (Int × Int)} {B a : Int} (hB : 0 ≤ B) (h : ∀ q ∈ m, 0 ≤ q.2 ∧ q.2 ≤ B) : 0 ≤ lkI m a ∧ lkI m a ≤ B := by
  induction m with
  | nil => exact ⟨Int.le_refl _, hB⟩
  | cons q m ih =>
    rw [lkI_cons]
    split
    · exact h q (by simp)
    · exact ih (fun r hr => h r (by simp [hr]))
theorem sumIf_upI (P : Int → Bool) (m : List (Int × Int)) (a n : Int) : sumIf P (upI m a (lkI m a + n)) = sumIf P m + if P a = true then n else 0 := by
  induction m with
  | nil => simp [upI, lkI, fI, sumIf]
  | cons q m ih =>
    rw [upI_cons, lkI_cons]
    by_cases h : a = q.1
    · rw [if_pos h, if_pos h]; simp only [sumIf]; rw [← h]; split <;> omega
    · rw [if_neg h, if_neg h]; simp only [sumIf, ih]; omega
theorem upI_len (m : List (Int × Int)) (a v : Int) : (upI m a v).length ≤ m.length + 1 := by
  induction m with
  | nil => simp [upI, fI]
  | cons q m ih =>
    rw [upI_cons]
    split
    · simp
    · simp only [List.length_cons]; omega
theorem PortOk.snoc {l : List LG} {b : Int} {m : List (Int × Int)} (h : PortOk l b m) (x : LG) (hl : ∀ y ∈ l, ∀ z ∈ y.xs, 0 ≤ z.v.tons) (h0 : 0 < ofT (x.xs.map HLay.v) b) (h1 : ofT (x.xs.map HLay.v) b ≤ 1000000) : PortOk (l ++ [x]) b (upI m x.port (lkI m x.port + ofT (x.xs.map HLay.v) b)) := by
  refine ⟨fun p => ?_, fun p => ?_, ?_, fun q hq => ?_, fun P => by rw [sumIf_upI, inL_snoc, h.sum], by have := upI_len m x.port (lkI m x.port + ofT (x.xs.map HLay.v) b); have := h.len; rw [List.length_append, List.length_singleton]; omega⟩
  · rw [lkI_upI, inP_snoc, h.val, h.val]
    by_cases e : p = x.port
    · rw [if_pos e, if_pos e.symm, e]
    · rw [if_neg e, if_neg (fun q => e q.symm)]; omega
  · have hn := inP_nonneg (b := b) (p := p) hl
    rw [upI_keys, inP_snoc]
    by_cases e : x.port = p
    · rw [if_pos e]
      split
      · rename_i hm; exact ⟨fun _ => by omega, fun _ => by rw [← e]; exact hm⟩
      · exact ⟨fun _ => by omega, fun _ => by rw [e]; simp⟩
    · rw [if_neg e]
      split
      · rw [h.key]; omega
      · rw [List.mem_append, h.key]
        simp only [List.mem_singleton]
        exact ⟨fun q => q.elim (fun q => by omega) (fun q => absurd q.symm e), fun q => .inl (by omega)⟩
  · rw [upI_keys]
    split
    · exact h.nd
    · rename_i hm
      refine List.nodup_append.2 ⟨h.nd, by simp, fun a ha c hc e => ?_⟩
      rw [List.mem_singleton.1 hc] at e; subst e; exact hm ha
  · rw [List.length_append, List.length_singleton]
    rcases upI_mem q hq with h2 | h2
    · have := h.rng q h2; omega
    · subst h2
      have := lkI_rng (a := x.port) (by omega) h.rng
      show 0 ≤ lkI m x.port + _ ∧ lkI m x.port + _ ≤ _
      omega
theorem PortOk.skip {l : List LG} {b : Int} {m : List (Int × Int)} (h : PortOk l b m) (x : LG) (h0 : ofT (x.xs.map HLay.v) b = 0) : PortOk (l ++ [x]) b m := by
  have e : ∀ p, inP (l ++ [x]) b p = inP l b p := fun p => by rw [inP_snoc, h0]; split <;> omega
  exact ⟨fun p => by rw [e]; exact h.val p, fun p => by rw [e]; exact h.key p, h.nd, fun q hq => by have := h.rng q hq; rw [List.length_append, List.length_singleton]; omega, fun P => by rw [inL_snoc, h0, h.sum]; split <;> omega, by have := h.len; rw [List.length_append]; omega⟩
/-! ### Iterators over the keys of a map -/
/-- No map, and no iterator over one, has turned. -/
def FixO (w w' : World) : Prop := ∀ (k : Nat), ((∃ es c, w.heap[k]? = some (Obj.map es c)) ∨ (∃ a b c d, w.heap[k]? = some (Obj.mapIter a b c d))) → w'.heap[k]? = w.heap[k]?
theorem FixO.of {S : Nat → Prop} {w w' : World} (u : Upd S w w') (h : ∀ (k : Nat), k < w.heap.size → S k → (∃ c t f, w.heap[k]? = some (.cells c t f)) ∨ ∃ r, w.heap[k]? = some (.loop r)) : FixO w w' := fun k hk => by
  have hlt : k < w.heap.size := by rcases hk with ⟨_, _, h⟩ | ⟨_, _, _, _, h⟩ <;> exact lt_of_block h
  refine u.block k hlt (fun hs => ?_)
  rcases h k hlt hs with ⟨c, t, f, hc⟩ | ⟨r, hc⟩ <;> rcases hk with ⟨_, _, h⟩ | ⟨_, _, _, _, h⟩ <;> (rw [hc] at h; cases h)
theorem FixO.trans {a b c : World} (h : FixO a b) (k : FixO b c) : FixO a c := fun i hi => by
  have h1 := h i hi
  refine (k i ?_).trans h1
  rw [h1]; exact hi
theorem ItI.fix {m left : List (Int × Int)} {w w' : World} {r it : Nat} (h : ItI m left w r it) (f : FixO w w') : ItI m left w' r it := h.same (f _ (.inl h.map)) (f _ (.inr h.iter))
/-- A key that is handed out, those that were before it, and the world then. -/
structure KyE where
  pre : List Int
  key : Int
  w : World
def YKy (n D : Nat) (C : List Int → World → Prop) (x : KyE) (W : World) : Prop := C x.pre W ∧ (x.pre.length < n ∧ D + 1 < W.heap.size) ∧ FixO x.w W ∧ Upd (fun _ => True) x.w W
def ZKy (C : List Int → World → Prop) (x : KyE) (W : World) : Prop := C (x.pre ++ [x.key]) W ∧ FixO x.w W ∧ Upd (fun _ => True) x.w W
theorem FixO.turn {w w' : World} {l : Nat} (hl : ∃ r, w.heap[l]? = some (.loop r)) (u : Upd (· = l) w w') : FixO w w' := FixO.of u (fun k _ e => by subst e; exact .inr hl)
theorem YKy.turned {n D : Nat} {C : List Int → World → Prop} (hC : Turned (D + 1) C) : Turned (D + 1) (YKy n D C) := fun x W W' h hl u => ⟨hC _ _ _ h.1 hl u, ⟨h.2.1.1, Nat.lt_of_lt_of_le h.2.1.2 u.size⟩, h.2.2.1.trans (.turn hl u), h.2.2.2.trans (u.mono fun _ _ => trivial)⟩
theorem ZKy.turned {l : Nat} {C : List Int → World → Prop} (hC : Turned l C) : Turned l (ZKy C) := fun x W W' h hl u => ⟨hC _ _ _ h.1 hl u, h.2.1.trans (.turn hl u), h.2.2.trans (u.mono fun _ _ => trivial)⟩
theorem own54 : Own Try.prog 54 := ⟨Try.f54, Try.func54, by kernel_rfl, by kernel_rfl⟩
theorem own56 : Own Try.prog 56 := ⟨Try.f56, Try.func56, by kernel_rfl, by kernel_rfl⟩
theorem own80 : Own Try.prog 80 := ⟨Try.f80, Try.func80, by kernel_rfl, by kernel_rfl⟩
theorem own90 : Own Try.prog 90 := ⟨Try.f90, Try.func90, by kernel_rfl, by kernel_rfl⟩
theorem own78 : Own Try.prog 78 := ⟨Try.f78, Try.func78, by kernel_rfl, by kernel_rfl⟩
theorem own79 : Own Try.prog 79 := ⟨Try.f79, Try.func79, by kernel_rfl, by kernel_rfl⟩
theorem own55 : Own Try.prog 55 := ⟨Try.f55, Try.func55, by kernel_rfl, by kernel_rfl⟩

set_option maxHeartbeats 1000000 in
theorem ports_c (base pv n : Nat) (V : VG) (bl : Int) (w0 : World) (hv : Voy base pv w0 V) (hvo : VOk n V) (hn : n ≤ 100) :
    CallsV Try.prog 54 [.pointer (some ⟨pv, 0, none⟩), .int .i64 bl] w0 (fun v w' => (∃ r, v = .map (some r) ∧ w0.heap.size ≤ r ∧ MapI (portsM V.ld bl []) w' r ∧ PortOk V.ld bl (portsM V.ld bl [])) ∧ Ext w0 w') := by
 have hpb := hv.blk
 have hldl : V.ld.length ≤ n := by have h := hvo.ok.ldn; simp only [VG.st, List.length_map] at h; exact h
 refine f_enter (N := 33) Try.func54 rfl rfl rfl (c_seq fun K1 hK1 => (c_region (t_assign rfl rfl rfl (t_nil' (hK1 _ _ (c_seq fun K2 hK2 => (c_region (t_makemap rfl rfl (fun bk3 w4 ebk3 sbk3 M5 u6 => ?_)))))))))
 have zu6 := u6.size
 refine t_assign rfl rfl rfl (t_nil' (hK2 _ _ (c_seq fun K8 hK8 => (c_seq fun K9 hK9 => (c_region (t_move rfl rfl rfl (t_nilchk rfl rfl rfl (t_field Try.underlying118 rfl Try.sizeOf116 (5) rfl rfl rfl rfl ?_))))))))
 have B10 := (hpb.kx u6)
 refine t_load Try.isAgg116 rfl rfl rfl (B10.get rfl) (t_len Try.underlying116 rfl rfl rfl rfl (t_move rfl rfl rfl (t_nil' (hK9 _ _ (c_block (c_loop (γ := Nat × List (Int × Int)) (fun gg => [(1, .int .i64 bl), (5, .map (some bk3)), (13, .slice V.da V.ld.length V.dc), (14, .int .i64 (V.ld.length : Int)), (15, .int .i64 (gg.1 : Int))]) (fun gg w => Upd (fun i => i = bk3) w4 w ∧ (gg.1 ≤ V.ld.length) ∧ (PortOk (V.ld.take gg.1) bl gg.2) ∧ (MapI gg.2 w bk3) ∧ (gg.2 = portsM (V.ld.take gg.1) bl [])) (fun gg => V.ld.length - gg.1) (0, []) ⟨rfl, rfl, rfl, rfl, rfl, trivial⟩ ⟨Upd.refl _ _, (Nat.zero_le _), PortOk.nil, (MapI.ofMemo M5), rfl⟩ ?_))))))
 intro gg w12 hW K11 hK11
 obtain ⟨k, m⟩ := gg
 change WC _ _ _ _ _ _ [(1, .int .i64 bl), (5, .map (some bk3)), (13, .slice V.da V.ld.length V.dc), (14, .int .i64 (V.ld.length : Int)), (15, .int .i64 (k : Int))] _
 change Upd (fun i => i = bk3) w4 w12 ∧ (k ≤ V.ld.length) ∧ (PortOk (V.ld.take k) bl m) ∧ (MapI m w12 bk3) ∧ (m = portsM (V.ld.take k) bl []) at hW
 obtain ⟨u13, I14, I15, I16, I17⟩ := hW
 have zu13 := u13.size
 have E18 := ((Upd.refl (fun _ => False) w0).nx u6).next u13 (fun i hi h => by omega)
 have hk := I14; clear I14
 have hpo := I15; clear I15
 have hM := I16; clear I16
 have hpm := I17; clear I17
 have hMl := hM.lt
 refine c_seq fun K19 hK19 => (c_region (t_cmp rfl rfl rfl rfl rfl (t_nil' (hK19 _ _ (c_seq fun K20 hK20 => (c_condp rfl (fun g16 => ?_) (fun g16 => ?_)))))))
 ·
  refine c_skip (hK20 _ _ (c_seq fun K21 hK21 => (c_block (c_seq fun K22 hK22 => (c_region ?_)))))
  have i23 : k < V.ld.length := (by omega)
  refine t_index (j := k) Try.underlying116 Try.sizeOf125 rfl rfl rfl rfl ((((hv.ext E18)).dacc.sl (fun _ => rfl)).addr (by omega)) rfl i23 (t_loadN (vs := [.int .i64 ((nth V.ld k).ev), .int .i64 ((nth V.ld k).port), .slice ((nth V.ld k).ao) ((nth V.ld k).xs.length) ((nth V.ld k).cp)]) Try.isAgg125 Try.sizeOf125 rfl rfl rfl (((((hv.ext E18)).dacc.sl (fun _ => rfl)).at_ k (by omega)).sub 0 3) rfl (t_alloc (cs := [.int .i64 0, .int .i64 0, .slice none 0 0]) Try.zeroValue125 rfl rfl rfl (fun bk24 w25 ebk24 sbk24 B26 u27 => ?_)))
  have zu27 := u27.size
  refine t_st (vs := [.int .i64 ((nth V.ld k).ev), .int .i64 ((nth V.ld k).port), .slice ((nth V.ld k).ao) ((nth V.ld k).xs.length) ((nth V.ld k).cp)]) Try.sizeOf125 rfl rfl rfl B26 rfl rfl rfl rfl (fun w29 sw29 B31 u30 => ?_)
  have zu30 := u30.size
  have B31 : Blk w29 bk24 125 [.int .i64 ((nth V.ld k).ev), .int .i64 ((nth V.ld k).port), .slice ((nth V.ld k).ao) ((nth V.ld k).xs.length) ((nth V.ld k).cp)] := B31
  refine t_nil' (hK22 _ _ (c_seq fun K33 hK33 => (c_region (t_field Try.underlying125 rfl Try.sizeOf120 (2) rfl rfl rfl rfl (t_load Try.isAgg120 rfl rfl rfl (B31.get rfl) (t_move rfl rfl rfl (t_call own53 rfl rfl rfl rfl (of_c ((nth V.ld k).xs) ((nth V.ld k).ao) (nth V.ld k).g 0 ((nth V.ld k).cp) bl _ ((((hv.ext ((E18.nx u27).next u30 (fun i hi h => by omega)))).land (nth V.ld k) (nth_mem (by omega))).acc.sl (fun _ => rfl)) (hvo.fewL (nth_mem (by omega))).1 (hvo.fewL (nth_mem (by omega))).2.1) (fun v34 w35 r37 => ?_))))))))
  obtain ⟨rfl, u36⟩ := r37
  have zu36 := u36.size
  have hof := ofT_le (b := bl) (l := (nth V.ld k).xs.map HLay.v) (fun y hy => by obtain ⟨z, hz, rfl⟩ := List.mem_map.1 hy; exact ((hvo.fewL (nth_mem (xs := V.ld) (i := k) (by omega))).2.1 z hz).1)
  have hf9 := (hvo.fewL (nth_mem (xs := V.ld) (i := k) (by omega))).2.2
  have hlr := lkI_rng (a := (nth V.ld k).port) (by omega) hpo.rng
  have htl : (V.ld.take k).length = k := by rw [List.length_take]; omega
  rw [htl] at hlr
  refine t_assign rfl rfl rfl (t_nil' (hK33 _ _ (c_seq fun K39 hK39 => (c_region (t_move rfl rfl rfl (t_cmp rfl rfl rfl rfl rfl (t_nil' (hK39 _ _ (c_condp rfl (fun g24 => ?_) (fun g24 => ?_))))))))))
  ·
   refine c_region (t_move rfl rfl rfl (t_field Try.underlying125 rfl Try.sizeOf3 (1) rfl rfl rfl rfl ?_))
   have B40 := (B31.kx u36)
   refine t_load Try.isAgg3 rfl rfl rfl (B40.get rfl) ?_
   have D41 := (((hM.keep u27 (fun h => h)).keep u30 (show ¬ (bk3 = bk24) by first | omega | assumption)).keep u36 (fun h => h))
   refine t_lookupII Try.underlying3 Try.underlying135 Try.zeroValue3 rfl rfl rfl rfl D41 (t_move rfl rfl rfl (t_ari rfl rfl rfl rfl rfl (by omega) (t_mapsetII Try.underlying3 Try.underlying135 rfl rfl rfl rfl D41 (fun w42 sw42 M44 u43 => ?_))))
   have zu43 := u43.size
   refine t_nil' (hK21 _ _ (c_region (t_ari rfl rfl rfl rfl rfl (by omega) (t_move rfl rfl rfl (t_nil' ?_)))))
   exact hK11 (k + 1, (upI m ((nth V.ld k).port) ((lkI m ((nth V.ld k).port)) + (ofT (((nth V.ld k).xs).map HLay.v) bl)))) _ _ (by show V.ld.length - (k + 1) < V.ld.length - k; omega) ⟨rfl, rfl, rfl, rfl, rfl, trivial⟩ ⟨((((u13.next u27 (fun _ _ h => h.elim)).next u30 (fun i hi h => by omega)).next u36 (fun _ _ h => h.elim)).next u43 (fun i hi h => by omega)), (by omega), (by rw [take_nth (by omega)]; exact hpo.snoc _ (fun y hy z hz => (hvo.fewL (List.mem_of_mem_take hy)).2.1 z hz |>.1) g24 (by omega)), M44, (by rw [portsM_snoc (by omega), ← hpm]; show _ = if _ then _ else _; rw [if_pos g24])⟩
  refine c_skip (hK21 _ _ (c_region (t_ari rfl rfl rfl rfl rfl (by omega) (t_move rfl rfl rfl (t_nil' ?_)))))
  have D46 := (((hM.keep u27 (fun h => h)).keep u30 (show ¬ (bk3 = bk24) by first | omega | assumption)).keep u36 (fun h => h))
  exact hK11 (k + 1, m) _ _ (by show V.ld.length - (k + 1) < V.ld.length - k; omega) ⟨rfl, rfl, rfl, rfl, rfl, trivial⟩ ⟨(((u13.next u27 (fun _ _ h => h.elim)).next u30 (fun i hi h => by omega)).next u36 (fun _ _ h => h.elim)), (by omega), (by rw [take_nth (by omega)]; exact hpo.skip _ (by omega)), D46, (by rw [portsM_snoc (by omega), ← hpm]; show _ = if _ then _ else _; rw [if_neg g24])⟩
 refine c_exit (hK8 _ _ (c_seq fun K47 hK47 => (c_region (t_move rfl rfl rfl (t_assign rfl rfl rfl (t_nil' (hK47 _ _ (c_ret (f_ret1 (v := .map (some bk3)) Try.results54 rfl ?_)))))))))
 have hk9 : k = V.ld.length := by omega
 rw [hk9, List.take_length] at hpo hpm
 exact ⟨⟨_, rfl, by omega, by rw [← hpm]; exact hM, by rw [← hpm]; exact hpo⟩, E18⟩

theorem Keys_c (r : Nat) (w0 : World) :
    CallsV Try.prog 56 [.map (some r)] w0 (fun v w' => (∃ bx, v = .func (.func 80) #[] #[.pointer (some ⟨bx, 0, none⟩)] ∧ w0.heap.size ≤ bx ∧ Blk w' bx 135 [.map (some r)]) ∧ Ext w0 w') := by
 refine f_enter (N := 4) Try.func56 rfl rfl rfl (c_seq fun K1 hK1 => (c_region (t_box (cs := [.map (some r)]) rfl rfl rfl rfl (fun bk2 w3 ebk2 sbk2 B4 u5 => ?_))))
 have zu5 := u5.size
 refine t_assign rfl rfl rfl (t_nil' (hK1 _ _ (c_seq fun K7 hK7 => (c_region (t_mkfunc (vs := []) (us := [.pointer (some ⟨bk2, 0, none⟩)]) rfl rfl rfl rfl (t_assign rfl rfl rfl (t_nil' (hK7 _ _ (c_ret (f_ret1 (v := .func (.func 80) #[] #[.pointer (some ⟨bk2, 0, none⟩)]) Try.results56 rfl ?_))))))))))
 exact ⟨⟨_, rfl, by omega, B4⟩, ((Upd.refl (fun _ => False) w0).nx u5)⟩

theorem keys1_c (m : List (Int × Int)) (r bx l D : Nat) (C : List Int → World → Prop) (R : World → Prop) (w0 : World) (hC : ∀ pre W W', C pre W → Ext W W' → C pre W') (hCi : ∀ pre W W' it, C pre W → D + 1 < it → (∃ a b c d, W.heap[it]? = some (.mapIter a b c d)) → Upd (· = it) W W' → C pre W') (hH : Hands Try.prog l D (fun x : KyE => .int .i64 x.key) (YKy m.length D C) (ZKy C) R) (hM : MapI m w0 r) (hb : Blk w0 bx 135 [.map (some r)]) (hc : C [] w0) (hr : R w0) (hD : D + 1 < w0.heap.size) (hl : l = D + 1) :
    CallsV Try.prog 80 [.func (.yield l) #[] #[], .pointer (some ⟨bx, 0, none⟩)] w0 (fun _ w' => (∃ pre, pre.Perm (m.map (·.1)) ∧ C pre w') ∧ R w') := by
 have hR : ∀ W W', R W → Ext W W' → R W' := fun W W' h u => hH.keep h u (fun h => h) (fun h => h)
 refine f_enter (N := 14) Try.func80 rfl rfl rfl (c_seq fun K1 hK1 => (c_region (t_load Try.isAgg135 rfl rfl rfl (hb.get rfl) (t_rangeI Try.underlying135 rfl rfl rfl hM (fun it5 w2 eit5 sit5 J4 u3 => ?_)))))
 have zu3 := u3.size
 refine t_nil' (hK1 _ _ (c_block (c_loop (γ := List Int × List (Int × Int)) (fun gg => [(0, .func (.yield l) #[] #[]), (5, .pointer (some ⟨it5, 0, none⟩))]) (fun gg w => Upd (fun i => (fun _ => True) i) w2 w ∧ (C gg.1 w) ∧ (R w) ∧ (ItI m gg.2 w r it5) ∧ ((gg.1 ++ gg.2.map (·.1)).Perm (m.map (·.1))) ∧ (it5 < w.heap.size)) (fun gg => gg.2.length) ([], m) ⟨rfl, rfl, trivial⟩ ⟨Upd.refl _ _, (hC _ _ _ hc ((Upd.refl (fun _ => False) _).next u3 (fun _ _ h => h.elim))), (hR _ _ hr ((Upd.refl (fun _ => False) _).next u3 (fun _ _ h => h.elim))), J4, (List.Perm.refl _), (by omega)⟩ ?_)))
 intro gg w8 hW K7 hK7
 obtain ⟨pre, left⟩ := gg
 change WC _ _ _ _ _ _ [(0, .func (.yield l) #[] #[]), (5, .pointer (some ⟨it5, 0, none⟩))] _
 change Upd (fun i => (fun _ => True) i) w2 w8 ∧ (C pre w8) ∧ (R w8) ∧ (ItI m left w8 r it5) ∧ ((pre ++ left.map (·.1)).Perm (m.map (·.1))) ∧ (it5 < w8.heap.size) at hW
 obtain ⟨u9, I10, I11, I12, I13, I14⟩ := hW
 have zu9 := u9.size
 have hCk := I10; clear I10
 have hRk := I11; clear I11
 have hJ := I12; clear I12
 have hpm := I13; clear I13
 have hitl := I14; clear I14
 have hci := hJ.iter
 refine c_seq fun K16 hK16 => (c_region (t_nextI rfl rfl rfl hJ (fun hlf => ?_) (fun l1 p l2 w17 hlf sw17 N19 u18 => ?_)))
 ·
  refine t_extract rfl rfl rfl rfl (t_nil' (hK16 _ _ (c_seq fun K20 hK20 => (c_cond_f rfl (c_exit (f_ret0 Try.results80 ?_))))))
  exact ⟨⟨pre, by rw [hlf] at hpm; simpa using hpm, hCk⟩, hRk⟩
 have hCn := hCi _ _ _ _ hCk (by omega) hci u18
 have hRn := hH.keep hRk u18 (show ¬ (l = it5) by omega) (show ¬ (D = it5) by omega)
 have zu18 := u18.size
 refine t_extract rfl rfl rfl rfl (t_nil' (hK16 _ _ (c_seq fun K22 hK22 => (c_cond_t rfl (c_skip (hK22 _ _ (c_block (c_seq fun K23 hK23 => (c_region (t_entryII rfl rfl rfl N19 (t_extract rfl rfl rfl rfl (t_assign rfl rfl rfl (t_nil' (hK23 _ _ (c_seq fun K24 hK24 => (c_region (t_move rfl rfl rfl (t_move rfl rfl rfl (t_yield (vs := [.int .i64 p.1]) rfl rfl rfl rfl (hH.hand ⟨pre, p.1, w17⟩ _ ⟨hCn, ⟨by (have h := hpm.length_eq; rw [hlf] at h; simp at h; show pre.length < m.length; omega), by omega⟩, (fun _ _ => rfl), Upd.refl _ _⟩ hRn) (by rintro e w' ⟨rfl, _⟩; exact ⟨_, rfl⟩) (fun v25 w26 r27 => ?_))))))))))))))))))))
 obtain ⟨hvr27, hrr27⟩ := r27
 injection hvr27 with hvr27
 subst hvr27
 obtain ⟨⟨hzC, hfx, u28⟩, hzR⟩ := hrr27
 have zu28 := u28.size
 have hszy : w17.heap.size ≤ w26.heap.size := u28.size
 refine t_not rfl rfl rfl (t_nil' (hK24 _ _ (c_cond_f rfl (c_skip ?_))))
 exact hK7 (pre ++ [p.1], l1 ++ l2) _ _ (by show (l1 ++ l2).length < left.length; rw [hlf, List.length_append, List.length_append, List.length_cons]; omega) ⟨rfl, rfl, trivial⟩ ⟨((u9.next u18 (fun _ _ _ => trivial)).next u28 (fun _ _ _ => trivial)), hzC, hzR, (N19.1.fix hfx), (by refine List.Perm.trans ?_ hpm; rw [hlf, List.map_append, List.map_append, List.map_cons, List.append_assoc]; exact List.Perm.append_left pre (by rw [List.singleton_append]; exact List.perm_middle.symm)), (by omega)⟩

end Go.Proofs.Ytblkphbblkncdaa
