/-
  Part 8 of the proof: contracts and plain laws. Conditions: none.
-/
import Derived.Test.YtagmkfbbhfaceaaGreatDoorCK7
namespace Go.Proofs.YtagmkfbbhfaceaaGreatDoor
open Go Go.RowKit Go.Proofs.Tryz
set_option maxRecDepth 10000
/-! ### states: cargo and hulls -/
structure Crg where
  b : Int
  t : Int
instance : Inhabited Crg := ⟨⟨0, 0⟩⟩
/-- A hull in memory. -/
structure HR where
  n : Int
  p : Int
  ao : Option Addr
  g : Nat
  o : Nat
  cp : Nat
  c : List Crg
instance : Inhabited HR := ⟨⟨0, 0, none, 0, 0, 0, []⟩⟩
def encCrg (x : Crg) : List Value := [.int .i64 x.b, .int .i64 x.t]
def encHR (x : HR) : List Value := [.int .i64 x.n, .int .i64 x.p, .slice x.ao x.c.length x.cp]
theorem encCrg_one (x : Crg) : ∀ u ∈ encCrg x, u.oneCell' = true := by intro u hu; simp [encCrg] at hu; rcases hu with rfl | rfl <;> rfl
theorem encHR_one (x : HR) : ∀ u ∈ encHR x, u.oneCell' = true := by intro u hu; simp [encHR] at hu; rcases hu with rfl | rfl | rfl <;> rfl
/-- The keys ascend. -/
def Asc {α : Type} [Inhabited α] (ky : α → Int) (l : List α) : Prop := ∀ i j, i < j → j < l.length → ky (nth l i) < ky (nth l j)
/-- Where a key belongs. -/
def posK {α : Type} (ky : α → Int) (n : Int) : List α → Nat
  | [] => 0
  | x :: l => if ky x < n then posK ky n l + 1 else 0
theorem posK_eq {α : Type} [Inhabited α] {ky : α → Int} {n : Int} : ∀ {l : List α} {k : Nat}, k ≤ l.length → (∀ j, j < k → ky (nth l j) < n) → (k < l.length → n ≤ ky (nth l k)) → posK ky n l = k
  | [], k, hk, _, _ => by
    have : k = 0 := by simpa using hk
    subst this; rfl
  | x :: l, 0, _, _, h => by
    have : n ≤ ky x := h (by simp)
    unfold posK
    rw [if_neg (by omega)]
  | x :: l, k + 1, hk, h1, h2 => by
    have hx : ky x < n := h1 0 (by omega)
    unfold posK
    rw [if_pos hx, posK_eq (k := k) (by simpa using hk) (fun j hj => h1 (j + 1) (by omega)) (fun h => h2 (by simpa using h))]
theorem posK_spec {α : Type} [Inhabited α] (ky : α → Int) (n : Int) : ∀ (l : List α), posK ky n l ≤ l.length ∧ (∀ j, j < posK ky n l → ky (nth l j) < n) ∧ (posK ky n l < l.length → n ≤ ky (nth l (posK ky n l)))
  | [] => ⟨Nat.le_refl _, fun j h => absurd h (Nat.not_lt_zero j), fun h => absurd h (Nat.not_lt_zero _)⟩
  | x :: l => by
    obtain ⟨h1, h2, h3⟩ := posK_spec ky n l
    unfold posK
    split
    · refine ⟨by simpa using h1, fun j hj => ?_, fun h => ?_⟩
      · cases j with
        | zero => assumption
        | succ j => exact h2 j (by omega)
      · exact h3 (by simpa using h)
    · refine ⟨Nat.zero_le _, fun j hj => absurd hj (Nat.not_lt_zero j), fun _ => ?_⟩
      show n ≤ ky x
      omega
theorem Asc.below {α : Type} [Inhabited α] {ky : α → Int} {l : List α} {n : Int} (h : Asc ky l) {k : Nat} (hk : k ≤ l.length) (hl : 0 < k → ky (nth l (k - 1)) < n) : ∀ j, j < k → ky (nth l j) < n := fun j hj => by
  have h1 := hl (by omega)
  rcases Nat.lt_or_ge j (k - 1) with q | q
  · have := h j (k - 1) q (by omega)
    omega
  · rwa [show j = k - 1 by omega]
/-- Whether a key is there. -/
def isK {α : Type} [Inhabited α] (ky : α → Int) (n : Int) (l : List α) : Bool := decide (posK ky n l < l.length ∧ ky (nth l (posK ky n l)) = n)
theorem book1_c (x : Crg) (n : Int) (w0 : World) (hx : -1000000 ≤ x.b ∧ x.b ≤ 1000000) (hn : -1000000 ≤ n ∧ n ≤ 1000000) :
    CallsV Tryz.prog 180 [.agg #[.int .i64 x.b, .int .i64 x.t], .int .i64 n] w0 (fun v w' => v = .int .i64 (x.b - n) ∧ Ext w0 w') := by
 refine f_n func180 ?_
 refine go ?_
 refine x_b fun bk2 w3 ebk2 sbk2 B4 u5 => ?_
 refine go ?_
 refine f_1 results180 ?_
 exact ⟨rfl, u_d⟩

set_option maxHeartbeats 4000000 in
theorem searchC_c (l : List Crg) (al : Option Addr) (bl ol cl : Nat) (n : Int) (w0 : World) (hl : Sl encCrg 2 w0 al bl ol l) (hs : Asc (fun x : Crg => x.b) l) (hll : l.length ≤ 1000000) (hky : ∀ x ∈ l, -1000000 ≤ x.b ∧ x.b ≤ 1000000) (hn : -1000000 ≤ n ∧ n ≤ 1000000) :
    CallsV Tryz.prog 179 [.slice al l.length cl, .int .i64 n, .func (.func 180) #[] #[]] w0 (fun v w' => v = .tuple #[.int .i64 (posK (fun x : Crg => x.b) n l : Int), .bool (isK (fun x : Crg => x.b) n l)] ∧ Ext w0 w') := by
 refine f_n func179 ?_
 refine go ?_
 refine x_l2 (fun _ => False) [0, 1, 2, 8] (fun (i : Nat) (j : Nat) => [(9, .int .i64 (i : Int)), (10, .int .i64 (j : Int))]) (fun i j w => (i ≤ j) ∧ (j ≤ l.length) ∧ (0 < i → (nth l (i - 1)).b < n) ∧ (j < l.length → n ≤ (nth l j).b)) (fun i j => j - i) 0 l.length ⟨(Nat.zero_le _), (Nat.le_refl _), (fun h => absurd h (Nat.lt_irrefl _)), (fun h => absurd h (Nat.lt_irrefl _))⟩ ?_
 rintro i j w6 ⟨hij, hjl, hi, hj⟩ u7 zu7 K5 hK5
 have E8 := Sc.mk ((Upd.refl (fun _ => False) w0).nx u7)
 refine go ?_
 refine q_p (fun g17 => ?_) fun g17 => ?_
 ·
  refine go ?_
  refine t_conv underlying3 underlying175 rfl rfl rfl (IntWalk.u64_in _ (by omega)) (t_shr1 rfl rfl rfl rfl (by omega) (t_conv underlying175 underlying3 rfl rfl rfl (IntWalk.i64_in _ (by omega)) ?_))
  refine go ?_
  refine g_i ((i + j) / 2) (hl.keep E8.u (fun _ h => h)) (fun _ => ?_) (hj := (by omega))
  refine go ?_
  refine x_c func180 rfl rfl (book1_c (nth l ((i + j) / 2)) n _ (hky _ (nth_mem (by omega))) hn) ?_
  rintro _ w15 ⟨rfl, u16⟩ zu16
  refine go ?_
  refine q_p (fun g31 => ?_) fun g31 => ?_
  ·
   refine go ?_
   exact hK5 ((i + j) / 2 + 1) j ⟨(by show ((i + j) / 2) + 1 ≤ j; omega), (by omega), (fun _ => by show (nth l (((i + j) / 2) + 1 - 1)).b < n; rw [Nat.add_sub_cancel]; omega), hj⟩ (hs := by exact ⟨(congrArg (fun z => some (Value.int .i64 z)) (by omega)), (congrArg (fun z => some (Value.int .i64 z)) (by omega)), rfl, rfl, rfl, rfl, trivial⟩)
  refine go ?_
  exact hK5 i ((i + j) / 2) ⟨(by omega), (by omega), hi, (fun _ => by show n ≤ (nth l ((i + j) / 2)).b; omega)⟩ (hs := by exact ⟨(congrArg (fun z => some (Value.int .i64 z)) (by omega)), (congrArg (fun z => some (Value.int .i64 z)) (by omega)), rfl, rfl, rfl, rfl, trivial⟩)
 refine go ?_
 refine t_splitp 39 rfl (fun g39 => ?_) (fun g39 => ?_)
 ·
  refine go ?_
  refine g_i i (hl.keep E8.u (fun _ h => h)) (fun _ => ?_)
  refine go ?_
  refine x_c func180 rfl rfl (book1_c (nth l i) n _ (hky _ (nth_mem (by omega))) hn) ?_
  rintro _ w22 ⟨rfl, u23⟩ zu23
  refine go ?_
  refine f_ret2 (v1 := .int .i64 (i : Int)) (v2 := .bool (decide (((nth l i).b - n) = 0))) results179 rfl rfl ?_
  have hij2 : i = j := by omega
  subst hij2
  have hps : posK (fun x : Crg => x.b) n l = i := posK_eq hjl (hs.below hjl hi) hj
  exact ⟨by unfold isK; rw [hps]; simp [*] <;> first | omega | (rw [Bool.eq_iff_iff]; simp only [decide_eq_true_eq, Bool.and_eq_true]; omega), u_d⟩
 refine go ?_
 refine f_ret2 (v1 := .int .i64 (i : Int)) (v2 := .bool false) results179 rfl rfl ?_
 have hij2 : i = j := by omega
 subst hij2
 have hps : posK (fun x : Crg => x.b) n l = i := posK_eq hjl (hs.below hjl hi) hj
 exact ⟨by unfold isK; rw [hps]; simp [*] <;> first | omega | (rw [Bool.eq_iff_iff]; simp only [decide_eq_true_eq, Bool.and_eq_true]; omega), u_d⟩

theorem find1_c (x : HR) (n : Int) (w0 : World) (hx : -1000000 ≤ x.n ∧ x.n ≤ 1000000) (hn : -1000000 ≤ n ∧ n ≤ 1000000) :
    CallsV Tryz.prog 142 [.agg #[.int .i64 x.n, .int .i64 x.p, .slice x.ao x.c.length x.cp], .int .i64 n] w0 (fun v w' => v = .int .i64 (x.n - n) ∧ Ext w0 w') := by
 refine f_n func142 ?_
 refine go ?_
 refine x_b fun bk2 w3 ebk2 sbk2 B4 u5 => ?_
 refine go ?_
 refine f_1 results142 ?_
 exact ⟨rfl, u_d⟩

set_option maxHeartbeats 4000000 in
theorem searchH_c (l : List HR) (al : Option Addr) (bl ol cl : Nat) (n : Int) (w0 : World) (hl : Sl encHR 3 w0 al bl ol l) (hs : Asc (fun x : HR => x.n) l) (hll : l.length ≤ 1000000) (hky : ∀ x ∈ l, -1000000 ≤ x.n ∧ x.n ≤ 1000000) (hn : -1000000 ≤ n ∧ n ≤ 1000000) :
    CallsV Tryz.prog 141 [.slice al l.length cl, .int .i64 n, .func (.func 142) #[] #[]] w0 (fun v w' => v = .tuple #[.int .i64 (posK (fun x : HR => x.n) n l : Int), .bool (isK (fun x : HR => x.n) n l)] ∧ Ext w0 w') := by
 refine f_n func141 ?_
 refine go ?_
 refine x_l2 (fun _ => False) [0, 1, 2, 8] (fun (i : Nat) (j : Nat) => [(9, .int .i64 (i : Int)), (10, .int .i64 (j : Int))]) (fun i j w => (i ≤ j) ∧ (j ≤ l.length) ∧ (0 < i → (nth l (i - 1)).n < n) ∧ (j < l.length → n ≤ (nth l j).n)) (fun i j => j - i) 0 l.length ⟨(Nat.zero_le _), (Nat.le_refl _), (fun h => absurd h (Nat.lt_irrefl _)), (fun h => absurd h (Nat.lt_irrefl _))⟩ ?_
 rintro i j w6 ⟨hij, hjl, hi, hj⟩ u7 zu7 K5 hK5
 have E8 := Sc.mk ((Upd.refl (fun _ => False) w0).nx u7)
 refine go ?_
 refine q_p (fun g17 => ?_) fun g17 => ?_
 ·
  refine go ?_
  refine t_conv underlying3 underlying175 rfl rfl rfl (IntWalk.u64_in _ (by omega)) (t_shr1 rfl rfl rfl rfl (by omega) (t_conv underlying175 underlying3 rfl rfl rfl (IntWalk.i64_in _ (by omega)) ?_))
  refine go ?_
  refine g_i ((i + j) / 2) (hl.keep E8.u (fun _ h => h)) (fun _ => ?_) (hj := (by omega))
  refine go ?_
  refine x_c func142 rfl rfl (find1_c (nth l ((i + j) / 2)) n _ (hky _ (nth_mem (by omega))) hn) ?_
  rintro _ w15 ⟨rfl, u16⟩ zu16
  refine go ?_
  refine q_p (fun g31 => ?_) fun g31 => ?_
  ·
   refine go ?_
   exact hK5 ((i + j) / 2 + 1) j ⟨(by show ((i + j) / 2) + 1 ≤ j; omega), (by omega), (fun _ => by show (nth l (((i + j) / 2) + 1 - 1)).n < n; rw [Nat.add_sub_cancel]; omega), hj⟩ (hs := by exact ⟨(congrArg (fun z => some (Value.int .i64 z)) (by omega)), (congrArg (fun z => some (Value.int .i64 z)) (by omega)), rfl, rfl, rfl, rfl, trivial⟩)
  refine go ?_
  exact hK5 i ((i + j) / 2) ⟨(by omega), (by omega), hi, (fun _ => by show n ≤ (nth l ((i + j) / 2)).n; omega)⟩ (hs := by exact ⟨(congrArg (fun z => some (Value.int .i64 z)) (by omega)), (congrArg (fun z => some (Value.int .i64 z)) (by omega)), rfl, rfl, rfl, rfl, trivial⟩)
 refine go ?_
 refine t_splitp 39 rfl (fun g39 => ?_) (fun g39 => ?_)
 ·
  refine go ?_
  refine g_i i (hl.keep E8.u (fun _ h => h)) (fun _ => ?_)
  refine go ?_
  refine x_c func142 rfl rfl (find1_c (nth l i) n _ (hky _ (nth_mem (by omega))) hn) ?_
  rintro _ w22 ⟨rfl, u23⟩ zu23
  refine go ?_
  refine f_ret2 (v1 := .int .i64 (i : Int)) (v2 := .bool (decide (((nth l i).n - n) = 0))) results141 rfl rfl ?_
  have hij2 : i = j := by omega
  subst hij2
  have hps : posK (fun x : HR => x.n) n l = i := posK_eq hjl (hs.below hjl hi) hj
  exact ⟨by unfold isK; rw [hps]; simp [*] <;> first | omega | (rw [Bool.eq_iff_iff]; simp only [decide_eq_true_eq, Bool.and_eq_true]; omega), u_d⟩
 refine go ?_
 refine f_ret2 (v1 := .int .i64 (i : Int)) (v2 := .bool false) results141 rfl rfl ?_
 have hij2 : i = j := by omega
 subst hij2
 have hps : posK (fun x : HR => x.n) n l = i := posK_eq hjl (hs.below hjl hi) hj
 exact ⟨by unfold isK; rw [hps]; simp [*] <;> first | omega | (rw [Bool.eq_iff_iff]; simp only [decide_eq_true_eq, Bool.and_eq_true]; omega), u_d⟩

theorem cloneC_c (l : List Crg) (al : Option Addr) (bl ol cl : Nat) (w0 : World) (hl : Sl encCrg 2 w0 al bl ol l) (hll : l.length ≤ 1000000) (hpos : 0 < w0.heap.size) :
    CallsV Tryz.prog 90 [.slice al l.length cl] w0 (fun v w' => (∃ ao g cp, v = .slice ao (List.length l) cp ∧ Acc encCrg 2 72 w0.heap.size w' ao g cp l) ∧ Ext w0 w') := by
 refine f_n func90 ?_
 refine go ?_
 refine t_nilS underlying64 rfl rfl rfl rfl ?_
 refine go ?_
 refine q_b (fun g4 => ?_) fun g4 => ?_
 ·
  refine go ?_
  refine f_1 results90 ?_
  have hl0 : l = [] := List.eq_nil_of_length_eq_zero (by
    rcases Nat.eq_zero_or_pos l.length with h | h
    · exact h
    · rw [hl.addr h] at g4; cases g4)
  exact ⟨⟨none, 0, 0, by rw [hl0]; rfl, by rw [hl0]; exact Acc.nil _ _ _ _ _ hpos (by omega)⟩, u_d⟩
 refine go ?_
 refine x_l fun bk6 w7 ebk6 sbk6 B8 u9 => ?_
 refine go ?_
 refine t_copyE (enc := encCrg) (z := .agg #[.int .i64 0, .int .i64 0]) (bytes := 16) (k := 2) (ys := l) underlying64 (by kernel_rfl) rfl (by decide) (fun _ => rfl) (by intro x; simp [encCrg, Value.oneCell']) rfl rfl rfl rfl B8 (hl.keep ((Upd.refl (fun _ => False) w0).nx u9) (fun _ h => h)) (by omega) (by decide) (fun ao1 g1 c1 w11 A13 u12 ge1 => ?_)
 have zu12 := u12.size
 refine go ?_
 refine f_1 results90 ?_
 obtain ⟨g9, ha9⟩ := Acc.lower (base' := w0.heap.size) A13 (by omega) hpos
 exact ⟨⟨ao1, g9, c1, rfl, ha9⟩, u_d⟩

theorem cloneH_c (l : List HR) (al : Option Addr) (bl ol cl : Nat) (w0 : World) (hl : Sl encHR 3 w0 al bl ol l) (hll : l.length ≤ 1000000) (hpos : 0 < w0.heap.size) :
    CallsV Tryz.prog 91 [.slice al l.length cl] w0 (fun v w' => (∃ ao g cp, v = .slice ao (List.length l) cp ∧ Acc encHR 3 70 w0.heap.size w' ao g cp l) ∧ Ext w0 w') := by
 refine f_n func91 ?_
 refine go ?_
 refine t_nilS underlying63 rfl rfl rfl rfl ?_
 refine go ?_
 refine q_b (fun g4 => ?_) fun g4 => ?_
 ·
  refine go ?_
  refine f_1 results91 ?_
  have hl0 : l = [] := List.eq_nil_of_length_eq_zero (by
    rcases Nat.eq_zero_or_pos l.length with h | h
    · exact h
    · rw [hl.addr h] at g4; cases g4)
  exact ⟨⟨none, 0, 0, by rw [hl0]; rfl, by rw [hl0]; exact Acc.nil _ _ _ _ _ hpos (by omega)⟩, u_d⟩
 refine go ?_
 refine x_l fun bk6 w7 ebk6 sbk6 B8 u9 => ?_
 refine go ?_
 refine t_copyE (enc := encHR) (z := .agg #[.int .i64 0, .int .i64 0, .slice none 0 0]) (bytes := 40) (k := 3) (ys := l) underlying63 (by kernel_rfl) rfl (by decide) (fun _ => rfl) (by intro x; simp [encHR, Value.oneCell']) rfl rfl rfl rfl B8 (hl.keep ((Upd.refl (fun _ => False) w0).nx u9) (fun _ h => h)) (by omega) (by decide) (fun ao1 g1 c1 w11 A13 u12 ge1 => ?_)
 have zu12 := u12.size
 refine go ?_
 refine f_1 results91 ?_
 obtain ⟨g9, ha9⟩ := Acc.lower (base' := w0.heap.size) A13 (by omega) hpos
 exact ⟨⟨ao1, g9, c1, rfl, ha9⟩, u_d⟩

end Go.Proofs.YtagmkfbbhfaceaaGreatDoor
namespace Go.Proofs.YtagmkfbbhfaceaaGreatDoor
open Go Go.RowKit Go.Proofs.Tryz
set_option maxRecDepth 10000
set_option maxHeartbeats 4000000 in
theorem insertC_c (l : List Crg) (ao : Option Addr) (gb cp base k bv : Nat) (s : Crg) (w0 : World) (ha : Acc encCrg 2 72 base w0 ao gb cp l) (hk : k ≤ l.length) (hll : l.length ≤ 100000) (hbs : base ≤ w0.heap.size) (hb : Blk w0 bv 72 (encCrg s)) (hvg0 : base ≤ gb → bv ≠ gb) :
    CallsV Tryz.prog 181 [.slice ao l.length cp, .int .i64 (k : Int), .slice (some ⟨bv, 0, none⟩) 1 1] w0 (fun v w' => (∃ ao' g' cp', v = .slice ao' (List.length (l.take k ++ s :: l.drop k)) cp' ∧ Acc encCrg 2 72 base w' ao' g' cp' (l.take k ++ s :: l.drop k) ∧ (g' = gb ∨ w0.heap.size ≤ g')) ∧ Upd (fun i => i = gb ∧ base ≤ i) w0 w') := by
 have hcl := ha.cap_le
 have hgl := ha.lt
 have hbl := hb.lt
 refine f_n func181 ?_
 refine go ?_
 refine t_sliceFrom (k) underlying64 sizeOf72 rfl rfl rfl rfl rfl hk hcl ?_
 refine go ?_
 refine q_p (fun g22 => ?_) fun g22 => ?_
 ·
  refine go ?_
  refine t_append2 (z := .agg #[.int .i64 0, .int .i64 0]) (bytes := 16) (k := 2) (base := base) s underlying64 underlying64 (by kernel_rfl) rfl (by decide) (fun _ => rfl) (by intro x; simp [encCrg, Value.oneCell']) rfl rfl rfl rfl ha hb (by omega) (by omega) (by decide) (fun ao10 gb11 cp12 w13 A14 u15 gegb11 lngb11 => ?_)
  have zu15 := u15.size
  have lt_gb11 := A14.lt
  refine go ?_
  refine f_1 results181 ?_
  have hxe : (l.take k ++ s :: l.drop k) = l ++ [s] := by rw [show k = l.length by omega, List.take_length, List.drop_length]
  exact ⟨⟨ao10, gb11, cp12, by rw [hxe], by rw [hxe]; exact A14, (by omega)⟩, u_d⟩
 have hkl : k < l.length := by omega
 obtain ⟨hao, hbg, hlc, hcM0, cs0, hB0, hB0l, hB0t⟩ := Acc.raw ha (.inr (by omega))
 subst hao
 have hvg : bv ≠ gb := hvg0 hbg
 have hAtk : At w0 gb 0 ((l.take k).flatMap encCrg) := by
   have h9 := (ha.sl (fun _ => rfl)).cellsFrom (k := 2) (by decide) (fun _ => rfl) 0 k
   rw [List.drop_zero, Nat.zero_add, Nat.zero_mul] at h9
   exact h9
 have hgl0 := hB0.lt
 refine go ?_
 refine t_cap underlying64 rfl rfl rfl rfl ?_
 refine go ?_
 refine q_p (fun g31 => ?_) fun g31 => ?_
 ·
  refine go ?_
  refine t_sliceTo (k) underlying64 sizeOf72 rfl rfl rfl rfl rfl (by omega) (t_same 34 (v := .slice (some ⟨gb, 0, none⟩) k cp) rfl (by rw [subAddr_some (by omega)]) ?_)
  refine go ?_
  refine t_appZ (cs := (l.take k).flatMap encCrg) (m := l.length + 1 - k) (n := l.length + 1) (off := 0) (z := .agg #[.int .i64 0, .int .i64 0]) (bytes := 16) (k := 2) underlying64 underlying3 (by kernel_rfl) rfl (by decide) rfl rfl rfl rfl (by omega) (by omega) (by omega) (by omega) (by rw [flatMap_len (k := 2) (fun _ => rfl), List.length_take]; omega) hAtk (by omega) (by decide) (fun cN w20 zs hcN hcM hzl B22 u21 => ?_)
  have zu21 := u21.size
  obtain ⟨C0, hC0⟩ : ∃ C, (l.take k).flatMap encCrg ++ zs = C := ⟨_, rfl⟩
  rw [hC0] at B22
  have hlN := B22.lt
  have hCl : C0.length = cN * 2 := by rw [← hC0, List.length_append, hzl, flatMap_len (k := 2) (fun _ => rfl), List.length_take]; omega
  have hCt : C0.take (k * 2) = (l.take k).flatMap encCrg := by rw [← hC0, List.take_left' (by rw [flatMap_len (k := 2) (fun _ => rfl), List.length_take]; omega)]
  refine go ?_
  refine t_sliceFrom (k) underlying64 sizeOf72 rfl rfl rfl rfl (by omega) (by omega) (by omega) (t_same 43 (v := .slice (some ⟨w0.heap.size, 0 + k * 2, none⟩) ((l.length + 1) - k) (cN - k)) rfl (by rw [subAddr_some (by omega)]) ?_)
  refine go ?_
  have B28 := (hb.kx u21)
  refine t_copyB (k := 2) (cs := C0) (vs := (encCrg s)) underlying64 sizeOf72 rfl rfl rfl rfl B22 (B28.at) (by show 2 = min _ _ * 2; omega) (by show 0 + k * 2 + 2 ≤ _; rw [hCl]; omega) (by exact encCrg_one s) (fun w25 sw25 B27 u26 => ?_)
  have zu26 := u26.size
  obtain ⟨C1, hC1⟩ : ∃ C, lay C0 (0 + k * 2) (encCrg s) = C := ⟨_, rfl⟩
  rw [hC1] at B27
  have lC1 : C1.length = C0.length := by rw [← hC1, lay_length]
  refine go ?_
  refine c_drawnM follows (fun i => i = w0.heap.size) (OTl [0, 2, 4, 6, 8, 10, 12, 14, 17]) (by kernel_rfl) fun w31 u32 => ?_
  have zu32 := u32.size
  refine go ?_
  refine y_sliceFrom ((k + 1)) underlying64 sizeOf72 rfl rfl rfl rfl (by omega) (by omega) (by omega) (y_same 50 (v := .slice (some ⟨w0.heap.size, 0 + (k + 1) * 2, none⟩) ((l.length + 1) - (k + 1)) (cN - (k + 1))) rfl (by rw [subAddr_some (by omega)]) ?_)
  refine go ?_
  refine y_sliceFrom (k) underlying64 sizeOf72 rfl rfl rfl rfl (by omega) (by omega) (by omega) (y_same 53 (v := .slice (some ⟨gb, 0 + k * 2, none⟩) (l.length - k) (cp - k)) rfl (by rw [subAddr_some (by omega)]) ?_)
  refine go ?_
  have D37 := (((ha.keep u21 (fun _ h => h)).keep u26 (fun hb => show ¬ (gb = w0.heap.size) by first | omega | assumption)).keep u32 (fun _ h => h))
  refine t_copyB (k := 2) (cs := C1) (vs := ((l.drop k).flatMap encCrg)) underlying64 sizeOf72 rfl rfl rfl rfl (B27.kx u32) (by have h9 := (D37.sl (fun _ => rfl)).cellsFrom (k := 2) (by decide) (fun _ => rfl) k (l.length - k); rwa [List.take_of_length_le (by rw [List.length_drop]; omega)] at h9) (by rw [flatMap_len (k := 2) (fun _ => rfl), List.length_drop]; omega) (by rw [flatMap_len (k := 2) (fun _ => rfl), List.length_drop]; rw [lC1, hCl]; omega) (by intro v hv; obtain ⟨x, _, hv⟩ := List.mem_flatMap.1 hv; exact encCrg_one x v hv) (fun w34 sw34 B36 u35 => ?_)
  have zu35 := u35.size
  obtain ⟨C2, hC2⟩ : ∃ C, lay C1 (0 + (k + 1) * 2) ((l.drop k).flatMap encCrg) = C := ⟨_, rfl⟩
  rw [hC2] at B36
  have lC2 : C2.length = C1.length := by rw [← hC2, lay_length]
  refine go ?_
  refine f_1 results181 ?_
  have hln : (l.take k ++ s :: l.drop k).length = l.length + 1 := by rw [List.length_append, List.length_cons, List.length_take, List.length_drop]; omega
  refine ⟨⟨some ⟨w0.heap.size, 0, none⟩, w0.heap.size, cN, by rw [hln], Acc.ofRaw (cs := C2) B36 (Nat.le_trans hbs (by omega)) (by rw [hln]; omega) hcM (by rw [lC2, lC1]; exact hCl) ?_, (by first | exact .inl rfl | exact .inr (by omega))⟩, u_d⟩
  rw [hln]
  have h9 := ins_rawA (k := 2) (s := s) (fun _ => rfl) rfl hkl (by rw [hCl]; omega) hCt
  rw [← hC2, ← hC1, Nat.zero_add, Nat.zero_add]
  exact h9
 refine go ?_
 refine t_sliceTo (l.length + 1) underlying64 sizeOf72 rfl rfl rfl rfl (by omega) (by omega) (t_same 60 (v := .slice (some ⟨gb, 0, none⟩) (l.length + 1) cp) rfl (by rw [subAddr_some (by omega)]) ?_)
 refine go ?_
 refine t_sliceFrom ((k + 1)) underlying64 sizeOf72 rfl rfl rfl rfl (by omega) (by omega) (by omega) (t_same 66 (v := .slice (some ⟨gb, 0 + (k + 1) * 2, none⟩) ((l.length + 1) - (k + 1)) (cp - (k + 1))) rfl (by rw [subAddr_some (by omega)]) (t_apart (tS := 64) (tR := 4) (e := 72) func213 (by kernel_rfl) (by kernel_rfl) (by kernel_rfl) (by kernel_rfl) underlying64 sizeOf72 rfl rfl rfl rfl rfl hb hB0 hvg (by rw [hB0l]; omega) ?_))
 refine go ?_
 refine c_drawnM follows (fun i => i = gb) (OTl [0, 2, 4, 6, 8, 10, 12, 14, 17]) (by kernel_rfl) fun w44 u45 => ?_
 have zu45 := u45.size
 refine go ?_
 refine y_sliceFrom ((k + 1)) underlying64 sizeOf72 rfl rfl rfl rfl (by omega) (by omega) (by omega) (y_same 73 (v := .slice (some ⟨gb, 0 + (k + 1) * 2, none⟩) ((l.length + 1) - (k + 1)) (cp - (k + 1))) rfl (by rw [subAddr_some (by omega)]) ?_)
 refine go ?_
 refine y_sliceFrom (k) underlying64 sizeOf72 rfl rfl rfl rfl (by omega) (by omega) (by omega) (y_same 76 (v := .slice (some ⟨gb, 0 + k * 2, none⟩) ((l.length + 1) - k) (cp - k)) rfl (by rw [subAddr_some (by omega)]) ?_)
 refine go ?_
 have D50 := (ha.keep u45 (fun _ h => h))
 refine t_copyB (k := 2) (cs := cs0) (vs := ((l.drop k).flatMap encCrg)) underlying64 sizeOf72 rfl rfl rfl rfl (hB0.kx u45) (by have h9 := (D50.sl (fun _ => rfl)).cellsFrom (k := 2) (by decide) (fun _ => rfl) k (l.length - k); rwa [List.take_of_length_le (by rw [List.length_drop]; omega)] at h9) (by rw [flatMap_len (k := 2) (fun _ => rfl), List.length_drop]; omega) (by rw [flatMap_len (k := 2) (fun _ => rfl), List.length_drop]; rw [hB0l]; omega) (by intro v hv; obtain ⟨x, _, hv⟩ := List.mem_flatMap.1 hv; exact encCrg_one x v hv) (fun w47 sw47 B49 u48 => ?_)
 have zu48 := u48.size
 obtain ⟨C1, hC1⟩ : ∃ C, lay cs0 (0 + (k + 1) * 2) ((l.drop k).flatMap encCrg) = C := ⟨_, rfl⟩
 rw [hC1] at B49
 have lC1 : C1.length = cs0.length := by rw [← hC1, lay_length]
 refine go ?_
 refine t_sliceFrom (k) underlying64 sizeOf72 rfl rfl rfl rfl (by omega) (by omega) (by omega) (t_same 80 (v := .slice (some ⟨gb, 0 + k * 2, none⟩) ((l.length + 1) - k) (cp - k)) rfl (by rw [subAddr_some (by omega)]) ?_)
 refine go ?_
 have B56 := ((hb.kx u45).keep u48 (by omega))
 refine t_copyB (k := 2) (cs := C1) (vs := (encCrg s)) underlying64 sizeOf72 rfl rfl rfl rfl B49 (B56.at) (by show 2 = min _ _ * 2; omega) (by show 0 + k * 2 + 2 ≤ _; rw [lC1, hB0l]; omega) (by exact encCrg_one s) (fun w53 sw53 B55 u54 => ?_)
 have zu54 := u54.size
 obtain ⟨C2, hC2⟩ : ∃ C, lay C1 (0 + k * 2) (encCrg s) = C := ⟨_, rfl⟩
 rw [hC2] at B55
 have lC2 : C2.length = C1.length := by rw [← hC2, lay_length]
 refine go ?_
 refine f_1 results181 ?_
 have hln : (l.take k ++ s :: l.drop k).length = l.length + 1 := by rw [List.length_append, List.length_cons, List.length_take, List.length_drop]; omega
 refine ⟨⟨some ⟨gb, 0, none⟩, gb, cp, by rw [hln], Acc.ofRaw (cs := C2) B55 (hbg) (by rw [hln]; omega) hcM0 (by rw [lC2, lC1]; exact hB0l) ?_, (by first | exact .inl rfl | exact .inr (by omega))⟩, u_d⟩
 rw [hln]
 have h9 := ins_rawB (k := 2) (s := s) (fun _ => rfl) rfl hkl (by rw [hB0l]; omega) (raw_take (k := 2) (fun _ => rfl) hB0t (by omega))
 rw [← hC2, ← hC1, Nat.zero_add, Nat.zero_add]
 exact h9

set_option maxHeartbeats 4000000 in
theorem insertH_c (l : List HR) (ao : Option Addr) (gb cp base k bv : Nat) (s : HR) (w0 : World) (ha : Acc encHR 3 70 base w0 ao gb cp l) (hk : k ≤ l.length) (hll : l.length ≤ 100000) (hbs : base ≤ w0.heap.size) (hb : Blk w0 bv 70 (encHR s)) (hvg0 : base ≤ gb → bv ≠ gb) :
    CallsV Tryz.prog 140 [.slice ao l.length cp, .int .i64 (k : Int), .slice (some ⟨bv, 0, none⟩) 1 1] w0 (fun v w' => (∃ ao' g' cp', v = .slice ao' (List.length (l.take k ++ s :: l.drop k)) cp' ∧ Acc encHR 3 70 base w' ao' g' cp' (l.take k ++ s :: l.drop k) ∧ (g' = gb ∨ w0.heap.size ≤ g')) ∧ Upd (fun i => i = gb ∧ base ≤ i) w0 w') := by
 have hcl := ha.cap_le
 have hgl := ha.lt
 have hbl := hb.lt
 refine f_n func140 ?_
 refine go ?_
 refine t_sliceFrom (k) underlying63 sizeOf70 rfl rfl rfl rfl rfl hk hcl ?_
 refine go ?_
 refine q_p (fun g22 => ?_) fun g22 => ?_
 ·
  refine go ?_
  refine t_append2 (z := .agg #[.int .i64 0, .int .i64 0, .slice none 0 0]) (bytes := 40) (k := 3) (base := base) s underlying63 underlying63 (by kernel_rfl) rfl (by decide) (fun _ => rfl) (by intro x; simp [encHR, Value.oneCell']) rfl rfl rfl rfl ha hb (by omega) (by omega) (by decide) (fun ao10 gb11 cp12 w13 A14 u15 gegb11 lngb11 => ?_)
  have zu15 := u15.size
  have lt_gb11 := A14.lt
  refine go ?_
  refine f_1 results140 ?_
  have hxe : (l.take k ++ s :: l.drop k) = l ++ [s] := by rw [show k = l.length by omega, List.take_length, List.drop_length]
  exact ⟨⟨ao10, gb11, cp12, by rw [hxe], by rw [hxe]; exact A14, (by omega)⟩, u_d⟩
 have hkl : k < l.length := by omega
 obtain ⟨hao, hbg, hlc, hcM0, cs0, hB0, hB0l, hB0t⟩ := Acc.raw ha (.inr (by omega))
 subst hao
 have hvg : bv ≠ gb := hvg0 hbg
 have hAtk : At w0 gb 0 ((l.take k).flatMap encHR) := by
   have h9 := (ha.sl (fun _ => rfl)).cellsFrom (k := 3) (by decide) (fun _ => rfl) 0 k
   rw [List.drop_zero, Nat.zero_add, Nat.zero_mul] at h9
   exact h9
 have hgl0 := hB0.lt
 refine go ?_
 refine t_cap underlying63 rfl rfl rfl rfl ?_
 refine go ?_
 refine q_p (fun g31 => ?_) fun g31 => ?_
 ·
  refine go ?_
  refine t_sliceTo (k) underlying63 sizeOf70 rfl rfl rfl rfl rfl (by omega) (t_same 34 (v := .slice (some ⟨gb, 0, none⟩) k cp) rfl (by rw [subAddr_some (by omega)]) ?_)
  refine go ?_
  refine t_appZ (cs := (l.take k).flatMap encHR) (m := l.length + 1 - k) (n := l.length + 1) (off := 0) (z := .agg #[.int .i64 0, .int .i64 0, .slice none 0 0]) (bytes := 40) (k := 3) underlying63 underlying3 (by kernel_rfl) rfl (by decide) rfl rfl rfl rfl (by omega) (by omega) (by omega) (by omega) (by rw [flatMap_len (k := 3) (fun _ => rfl), List.length_take]; omega) hAtk (by omega) (by decide) (fun cN w20 zs hcN hcM hzl B22 u21 => ?_)
  have zu21 := u21.size
  obtain ⟨C0, hC0⟩ : ∃ C, (l.take k).flatMap encHR ++ zs = C := ⟨_, rfl⟩
  rw [hC0] at B22
  have hlN := B22.lt
  have hCl : C0.length = cN * 3 := by rw [← hC0, List.length_append, hzl, flatMap_len (k := 3) (fun _ => rfl), List.length_take]; omega
  have hCt : C0.take (k * 3) = (l.take k).flatMap encHR := by rw [← hC0, List.take_left' (by rw [flatMap_len (k := 3) (fun _ => rfl), List.length_take]; omega)]
  refine go ?_
  refine t_sliceFrom (k) underlying63 sizeOf70 rfl rfl rfl rfl (by omega) (by omega) (by omega) (t_same 43 (v := .slice (some ⟨w0.heap.size, 0 + k * 3, none⟩) ((l.length + 1) - k) (cN - k)) rfl (by rw [subAddr_some (by omega)]) ?_)
  refine go ?_
  have B28 := (hb.kx u21)
  refine t_copyB (k := 3) (cs := C0) (vs := (encHR s)) underlying63 sizeOf70 rfl rfl rfl rfl B22 (B28.at) (by show 3 = min _ _ * 3; omega) (by show 0 + k * 3 + 3 ≤ _; rw [hCl]; omega) (by exact encHR_one s) (fun w25 sw25 B27 u26 => ?_)
  have zu26 := u26.size
  obtain ⟨C1, hC1⟩ : ∃ C, lay C0 (0 + k * 3) (encHR s) = C := ⟨_, rfl⟩
  rw [hC1] at B27
  have lC1 : C1.length = C0.length := by rw [← hC1, lay_length]
  refine go ?_
  refine c_drawnM follows (fun i => i = w0.heap.size) (OTl [0, 2, 4, 6, 8, 10, 12, 14, 17]) (by kernel_rfl) fun w31 u32 => ?_
  have zu32 := u32.size
  refine go ?_
  refine y_sliceFrom ((k + 1)) underlying63 sizeOf70 rfl rfl rfl rfl (by omega) (by omega) (by omega) (y_same 50 (v := .slice (some ⟨w0.heap.size, 0 + (k + 1) * 3, none⟩) ((l.length + 1) - (k + 1)) (cN - (k + 1))) rfl (by rw [subAddr_some (by omega)]) ?_)
  refine go ?_
  refine y_sliceFrom (k) underlying63 sizeOf70 rfl rfl rfl rfl (by omega) (by omega) (by omega) (y_same 53 (v := .slice (some ⟨gb, 0 + k * 3, none⟩) (l.length - k) (cp - k)) rfl (by rw [subAddr_some (by omega)]) ?_)
  refine go ?_
  have D37 := (((ha.keep u21 (fun _ h => h)).keep u26 (fun hb => show ¬ (gb = w0.heap.size) by first | omega | assumption)).keep u32 (fun _ h => h))
  refine t_copyB (k := 3) (cs := C1) (vs := ((l.drop k).flatMap encHR)) underlying63 sizeOf70 rfl rfl rfl rfl (B27.kx u32) (by have h9 := (D37.sl (fun _ => rfl)).cellsFrom (k := 3) (by decide) (fun _ => rfl) k (l.length - k); rwa [List.take_of_length_le (by rw [List.length_drop]; omega)] at h9) (by rw [flatMap_len (k := 3) (fun _ => rfl), List.length_drop]; omega) (by rw [flatMap_len (k := 3) (fun _ => rfl), List.length_drop]; rw [lC1, hCl]; omega) (by intro v hv; obtain ⟨x, _, hv⟩ := List.mem_flatMap.1 hv; exact encHR_one x v hv) (fun w34 sw34 B36 u35 => ?_)
  have zu35 := u35.size
  obtain ⟨C2, hC2⟩ : ∃ C, lay C1 (0 + (k + 1) * 3) ((l.drop k).flatMap encHR) = C := ⟨_, rfl⟩
  rw [hC2] at B36
  have lC2 : C2.length = C1.length := by rw [← hC2, lay_length]
  refine go ?_
  refine f_1 results140 ?_
  have hln : (l.take k ++ s :: l.drop k).length = l.length + 1 := by rw [List.length_append, List.length_cons, List.length_take, List.length_drop]; omega
  refine ⟨⟨some ⟨w0.heap.size, 0, none⟩, w0.heap.size, cN, by rw [hln], Acc.ofRaw (cs := C2) B36 (Nat.le_trans hbs (by omega)) (by rw [hln]; omega) hcM (by rw [lC2, lC1]; exact hCl) ?_, (by first | exact .inl rfl | exact .inr (by omega))⟩, u_d⟩
  rw [hln]
  have h9 := ins_rawA (k := 3) (s := s) (fun _ => rfl) rfl hkl (by rw [hCl]; omega) hCt
  rw [← hC2, ← hC1, Nat.zero_add, Nat.zero_add]
  exact h9
 refine go ?_
 refine t_sliceTo (l.length + 1) underlying63 sizeOf70 rfl rfl rfl rfl (by omega) (by omega) (t_same 60 (v := .slice (some ⟨gb, 0, none⟩) (l.length + 1) cp) rfl (by rw [subAddr_some (by omega)]) ?_)
 refine go ?_
 refine t_sliceFrom ((k + 1)) underlying63 sizeOf70 rfl rfl rfl rfl (by omega) (by omega) (by omega) (t_same 66 (v := .slice (some ⟨gb, 0 + (k + 1) * 3, none⟩) ((l.length + 1) - (k + 1)) (cp - (k + 1))) rfl (by rw [subAddr_some (by omega)]) (t_apart (tS := 63) (tR := 4) (e := 70) func183 (by kernel_rfl) (by kernel_rfl) (by kernel_rfl) (by kernel_rfl) underlying63 sizeOf70 rfl rfl rfl rfl rfl hb hB0 hvg (by rw [hB0l]; omega) ?_))
 refine go ?_
 refine c_drawnM follows (fun i => i = gb) (OTl [0, 2, 4, 6, 8, 10, 12, 14, 17]) (by kernel_rfl) fun w44 u45 => ?_
 have zu45 := u45.size
 refine go ?_
 refine y_sliceFrom ((k + 1)) underlying63 sizeOf70 rfl rfl rfl rfl (by omega) (by omega) (by omega) (y_same 73 (v := .slice (some ⟨gb, 0 + (k + 1) * 3, none⟩) ((l.length + 1) - (k + 1)) (cp - (k + 1))) rfl (by rw [subAddr_some (by omega)]) ?_)
 refine go ?_
 refine y_sliceFrom (k) underlying63 sizeOf70 rfl rfl rfl rfl (by omega) (by omega) (by omega) (y_same 76 (v := .slice (some ⟨gb, 0 + k * 3, none⟩) ((l.length + 1) - k) (cp - k)) rfl (by rw [subAddr_some (by omega)]) ?_)
 refine go ?_
 have D50 := (ha.keep u45 (fun _ h => h))
 refine t_copyB (k := 3) (cs := cs0) (vs := ((l.drop k).flatMap encHR)) underlying63 sizeOf70 rfl rfl rfl rfl (hB0.kx u45) (by have h9 := (D50.sl (fun _ => rfl)).cellsFrom (k := 3) (by decide) (fun _ => rfl) k (l.length - k); rwa [List.take_of_length_le (by rw [List.length_drop]; omega)] at h9) (by rw [flatMap_len (k := 3) (fun _ => rfl), List.length_drop]; omega) (by rw [flatMap_len (k := 3) (fun _ => rfl), List.length_drop]; rw [hB0l]; omega) (by intro v hv; obtain ⟨x, _, hv⟩ := List.mem_flatMap.1 hv; exact encHR_one x v hv) (fun w47 sw47 B49 u48 => ?_)
 have zu48 := u48.size
 obtain ⟨C1, hC1⟩ : ∃ C, lay cs0 (0 + (k + 1) * 3) ((l.drop k).flatMap encHR) = C := ⟨_, rfl⟩
 rw [hC1] at B49
 have lC1 : C1.length = cs0.length := by rw [← hC1, lay_length]
 refine go ?_
 refine t_sliceFrom (k) underlying63 sizeOf70 rfl rfl rfl rfl (by omega) (by omega) (by omega) (t_same 80 (v := .slice (some ⟨gb, 0 + k * 3, none⟩) ((l.length + 1) - k) (cp - k)) rfl (by rw [subAddr_some (by omega)]) ?_)
 refine go ?_
 have B56 := ((hb.kx u45).keep u48 (by omega))
 refine t_copyB (k := 3) (cs := C1) (vs := (encHR s)) underlying63 sizeOf70 rfl rfl rfl rfl B49 (B56.at) (by show 3 = min _ _ * 3; omega) (by show 0 + k * 3 + 3 ≤ _; rw [lC1, hB0l]; omega) (by exact encHR_one s) (fun w53 sw53 B55 u54 => ?_)
 have zu54 := u54.size
 obtain ⟨C2, hC2⟩ : ∃ C, lay C1 (0 + k * 3) (encHR s) = C := ⟨_, rfl⟩
 rw [hC2] at B55
 have lC2 : C2.length = C1.length := by rw [← hC2, lay_length]
 refine go ?_
 refine f_1 results140 ?_
 have hln : (l.take k ++ s :: l.drop k).length = l.length + 1 := by rw [List.length_append, List.length_cons, List.length_take, List.length_drop]; omega
 refine ⟨⟨some ⟨gb, 0, none⟩, gb, cp, by rw [hln], Acc.ofRaw (cs := C2) B55 (hbg) (by rw [hln]; omega) hcM0 (by rw [lC2, lC1]; exact hB0l) ?_, (by first | exact .inl rfl | exact .inr (by omega))⟩, u_d⟩
 rw [hln]
 have h9 := ins_rawB (k := 3) (s := s) (fun _ => rfl) rfl hkl (by rw [hB0l]; omega) (raw_take (k := 3) (fun _ => rfl) hB0t (by omega))
 rw [← hC2, ← hC1, Nat.zero_add, Nat.zero_add]
 exact h9

end Go.Proofs.YtagmkfbbhfaceaaGreatDoor
namespace Go.Proofs.YtagmkfbbhfaceaaGreatDoor
open Go Go.RowKit Go.Proofs.Tryz
set_option maxRecDepth 10000
section
variable {P : Program} {ops : Array Oper} {Q : Exit → Act → World → Prop} {N : Nat} {ds : List Deferred} {rest : List Oper} {L : Slots} {w : World} {rd : Option Nat} {d : Nat} {ty : TypeId} {pos : String} {aft : Array Edge} {g : Option (Nat × Bool)}
theorem t_slice3 {t e : TypeId} {x lo hi mx : Operand} {ao : Option Addr} {n cap k : Nat} {kl kh km : IntKind} {ml mh mm : Int} (l h' m' : Nat) (hu : P.underlying t = some (.slice e)) (hsz : ∀ w, (sizeOf e).run P w = .ok k w)
    (hg : grd ops L g = true) (hN : Nat.blt d N = true) (hx : ev L x = some (.slice ao n cap)) (hlo : ev L lo = some (.int kl ml)) (hhi : ev L hi = some (.int kh mh)) (hmx : ev L mx = some (.int km mm)) (e1 : ml = l) (e2 : mh = h') (e3 : mm = m') (b1 : l ≤ h') (b2 : h' ≤ m') (b3 : m' ≤ cap)
    (h : WL rd P ops Q N ds rest ((d, .slice (subAddr ao m' l k) (h' - l) (m' - l)) :: L) w) : WL rd P ops Q N ds (⟨some d, .slice t x (some lo) (some hi) (some mx), ty, pos, aft, g⟩ :: rest) L w :=
  WL.value hg rfl hN (fun a hk => by
    subst e1 e2 e3
    simp [execOp, Instr.sliceAt, run_underlying hu, Instr.slice, Instr.sliceBounds, Instr.sliceBound, hk.ev hx, hk.ev hlo, hk.ev hhi, hk.ev hmx, asIntOf, b1, b2, b3, hsz, subAddr]) h
/-- append(s[:i], s[j:]...) where there is room. -/
theorem t_appIn {t e : TypeId} {z : Value} {bytes k n1 cap m c so b : Nat} {cs vs : List Value} {s x : Operand} (hu : P.underlying t = some (.slice e)) (hi : (P.info? e).map (fun i => (i.zero, i.size, i.bytes)) = some (some z, k, bytes))
    (hg : grd ops L g = true) (hN : Nat.blt d N = true) (hs : ev L s = some (.slice (some ⟨b, 0, none⟩) n1 cap)) (hx : ev L x = some (.slice (some ⟨b, so, none⟩) m c)) (hB : Blk w b e cs) (ha : At w b so vs) (hn : vs.length = m * k) (hroom : n1 + m ≤ cap) (hf : n1 * k + vs.length ≤ cs.length) (h1 : ∀ v ∈ vs, v.oneCell' = true)
    (h : ∀ w', w'.heap.size = w.heap.size → Blk w' b e (lay cs (n1 * k) vs) → Upd (· = b) w w' → WL rd P ops Q N ds rest ((d, .slice (some ⟨b, 0, none⟩) (n1 + m) cap) :: L) w') :
    WL rd P ops Q N ds (⟨some d, .call ⟨.builtin .append, #[s, x], #[t, t]⟩, ty, pos, aft, g⟩ :: rest) L w := by
  obtain ⟨i, hi0, hi1, hi2, hi3⟩ := info_parts' hi
  obtain ⟨w', hr, hb', hu', hz'⟩ := run_storeCells (P := P) vs w cs (n1 * k) 0 hB (by omega) h1
  refine WL.value hg rfl hN (fun a hk => ?_) (h w' hz' (by simpa using hb') hu')
  have hfc := run_firstCells_some (P := P) w i.size m ⟨b, so, none⟩ m c vs (by rw [hn, hi2]) (fun j u hj => by simpa [addr_add] using ha j u hj)
  rw [hi2] at hfc
  have hr2 : (Builtin.append_ #[t, t] ty #[.slice (some ⟨b, 0, none⟩) n1 cap, .slice (some ⟨b, so, none⟩) m c]).run P w = .ok (.slice (some ⟨b, 0, none⟩) (n1 + m) cap) w' := by
    simp [Builtin.append_, run_underlying hu, sizeOf, typeInfo, hi0, Builtin.lenOf, hroom, hfc, Addr.add_lit, hi2, hr]
  simp only [execOp, resolve, invoke, builtin]
  simp [hk.ev hs, hk.ev hx, hr2]
end
theorem del_raw {α : Type} {enc : α → List Value} {k m : Nat} (hk : ∀ x, (enc x).length = k) {xs : List α} {C : List Value} (hm : m < xs.length) (hC : xs.length * k ≤ C.length) (ht : C.take (xs.length * k) = xs.flatMap enc) :
    (lay C (m * k) ((xs.drop (m + 1)).flatMap enc)).take (xs.length * k) = (xs.take m ++ xs.drop (m + 1) ++ xs.drop (xs.length - 1)).flatMap enc := by
  have l1 : ((xs.drop (m + 1)).flatMap enc).length = (xs.length - (m + 1)) * k := by rw [flatMap_len hk, List.length_drop]
  have e1 : m * k + (xs.length - (m + 1)) * k = (xs.length - 1) * k := by rw [← Nat.add_mul]; congr 1; omega
  have e2 : xs.length * k = (xs.length - 1) * k + k := by rw [← Nat.succ_mul]; congr 1; omega
  rw [lay_eq (by rw [l1, e1]; omega), l1, e1, List.flatMap_append, List.flatMap_append, raw_take hk ht (by omega)]
  have l2 : ((xs.take m).flatMap enc ++ (xs.drop (m + 1)).flatMap enc).length = (xs.length - 1) * k := by rw [List.length_append, l1, flatMap_len hk, List.length_take, Nat.min_eq_left (by omega), e1]
  rw [List.take_append, List.take_of_length_le (by rw [l2]; omega), l2]
  congr 1
  rw [show xs.length * k - (xs.length - 1) * k = k by omega]
  have h9 : (C.drop ((xs.length - 1) * k)).take k = (C.take (xs.length * k)).drop ((xs.length - 1) * k) := by rw [List.drop_take]; congr 1; omega
  rw [h9, ht]
  have e3 : xs.flatMap enc = (xs.take (xs.length - 1)).flatMap enc ++ (xs.drop (xs.length - 1)).flatMap enc := by rw [← List.flatMap_append, List.take_append_drop]
  rw [e3, List.drop_left' (by rw [flatMap_len hk, List.length_take, Nat.min_eq_left (by omega)])]
set_option maxHeartbeats 4000000 in
theorem delete0_c (l : List Crg) (gb cap base k : Nat) (w0 : World) (ha : Acc encCrg 2 72 base w0 (some ⟨gb, 0, none⟩) gb cap l) (hk : k < l.length) (hll : l.length ≤ 100000) :
    CallsV Tryz.prog 182 [.slice (some ⟨gb, 0, none⟩) l.length cap, .int .i64 (k : Int), .int .i64 ((k + 1 : Nat) : Int)] w0 (fun v w' => (v = .slice (some ⟨gb, 0, none⟩) (List.length (l.take k ++ l.drop (k + 1))) cap ∧ Acc encCrg 2 72 base w' (some ⟨gb, 0, none⟩) gb cap (l.take k ++ l.drop (k + 1))) ∧ Upd (fun i => i = gb ∧ base ≤ i) w0 w') := by
 obtain ⟨-, hbg, hlc, hcM, cs0, hB0, hB0l, hB0t⟩ := Acc.raw ha (.inr (by omega))
 have lt_gb := ha.lt
 have hxl : ((l.take k ++ l.drop (k + 1) ++ l.drop (l.length - 1))).length = l.length := by simp only [List.length_append, List.length_take, List.length_drop]; omega
 obtain ⟨so, hso, hat⟩ : ∃ so, subAddr (some ⟨gb, 0, none⟩) cap (k + 1) 2 = some ⟨gb, so, none⟩ ∧ At w0 gb so ((l.drop (k + 1)).flatMap encCrg) := by
   by_cases hc : k + 1 < cap
   · refine ⟨_, subAddr_some hc, ?_⟩
     have h9 := (ha.sl (fun _ => rfl)).cellsFrom (k := 2) (by decide) (fun _ => rfl) (k + 1) (l.length - (k + 1))
     rwa [List.take_of_length_le (by rw [List.length_drop]; omega)] at h9
   · refine ⟨0, by unfold subAddr; rw [if_pos (by omega)], ?_⟩
     rw [List.drop_of_length_le (by omega)]
     intro j u hj
     simp at hj
 refine f_n func182 ?_
 refine go ?_
 refine t_slice3 k (k + 1) l.length underlying64 sizeOf72 rfl rfl rfl rfl rfl rfl rfl (by omega) rfl (by omega) (by omega) (by omega) ?_
 refine go ?_
 refine q_p (fun g16 => ?_) fun g16 => ?_
 ·
  exact absurd g16 (by omega)
 refine go ?_
 refine c_drawnM follows (fun i => i = gb) (OTl [0, 2, 4, 6, 8, 10, 13, 14]) (by kernel_rfl) fun w7 u8 => ?_
 have zu8 := u8.size
 refine go ?_
 refine y_sliceTo k underlying64 sizeOf72 rfl rfl rfl rfl rfl (by omega) (y_same 22 (v := .slice (some ⟨gb, 0, none⟩) k cap) rfl (by rw [subAddr0]) ?_)
 refine go ?_
 refine y_sliceFrom (k + 1) underlying64 sizeOf72 rfl rfl rfl rfl (by omega) (by omega) (by omega) (y_same 25 (v := .slice (some ⟨gb, so, none⟩) (l.length - (k + 1)) (cap - (k + 1))) rfl (by rw [hso]) ?_)
 refine go ?_
 have hB00 := (hB0.kx u8)
 have hat0 := (hat.keep u8 (by omega) (fun h => h))
 refine t_appIn (vs := (l.drop (k + 1)).flatMap encCrg) (z := .agg #[.int .i64 0, .int .i64 0]) (bytes := 16) (k := 2) underlying64 (by kernel_rfl) rfl rfl rfl rfl hB00 hat0 (by rw [flatMap_len (k := 2) (fun _ => rfl), List.length_drop]) (by omega) (by rw [flatMap_len (k := 2) (fun _ => rfl), List.length_drop, hB0l]; omega) (fun v hv => by obtain ⟨x, _, hv⟩ := List.mem_flatMap.1 hv; exact encCrg_one x v hv) (fun w10 sw10 hB1 u11 => ?_)
 have zu11 := u11.size
 have hac : Acc encCrg 2 72 base w10 (some ⟨gb, 0, none⟩) gb cap (l.take k ++ l.drop (k + 1) ++ l.drop (l.length - 1)) := Acc.ofRaw hB1 hbg (by rw [hxl]; omega) hcM (by rw [lay_length, hB0l]) (by rw [hxl]; exact del_raw (k := 2) (fun _ => rfl) hk (by rw [hB0l]; omega) hB0t)
 have lt_gb := hac.lt
 refine t_same 26 (v := .slice (some ⟨gb, 0, none⟩) (l.length - 1) cap) rfl (by congr 1; omega) ?_
 refine go ?_
 refine t_slice (l.length - 1) l.length underlying64 sizeOf72 rfl rfl rfl rfl rfl (by omega) (by omega) (by omega) (by omega) (t_clear (enc := encCrg) (k := 2) (xs := (l.take k ++ l.drop (k + 1) ++ l.drop (l.length - 1))) underlying64 rfl zeroValue72 rfl (by decide) (fun _ => rfl) rfl rfl (by omega) (by omega) hac (fun w14 sw14 A16 u15 => ?_))
 have lt_gb := A16.lt
 refine go ?_
 refine f_1 results182 ?_
 have hxt : (l.take k ++ l.drop (k + 1) ++ l.drop (l.length - 1)).take (l.length - 1) = (l.take k ++ l.drop (k + 1)) := List.take_left' (by simp only [List.length_append, List.length_take, List.length_drop]; omega)
 rw [hxt] at A16
 exact ⟨⟨by congr 1; simp only [List.length_append, List.length_take, List.length_drop]; omega, A16⟩, u_d⟩

end Go.Proofs.YtagmkfbbhfaceaaGreatDoor
namespace Go.Proofs.YtagmkfbbhfaceaaGreatDoor
open Go Go.RowKit
theorem lay_get : ∀ (vs cs : List Value) (i q : Nat), i + vs.length ≤ cs.length → (lay cs i vs)[q]? = if i ≤ q ∧ q < i + vs.length then vs[q - i]? else cs[q]?
  | [], cs, i, q, _ => by rw [if_neg (by simp only [List.length_nil]; omega)]; rfl
  | v :: vs, cs, i, q, h => by
    have hl : i < cs.length := by simp at h; omega
    show (lay (cs.set i v) (i + 1) vs)[q]? = _
    rw [lay_get vs (cs.set i v) (i + 1) q (by simp at h ⊢; omega)]
    by_cases h1 : q = i
    · subst h1
      rw [if_neg (by omega), if_pos (by simp), List.getElem?_set_self hl]
      simp
    · by_cases h2 : i + 1 ≤ q ∧ q < i + 1 + vs.length
      · rw [if_pos h2, if_pos (by simp; omega), show q - i = (q - (i + 1)) + 1 by omega]
        rfl
      · rw [if_neg h2, if_neg (by simp; omega), List.getElem?_set_ne (by omega)]
/-- A block of the call's own whose first cells are the elements xs. -/
structure Wr {α : Type} [Inhabited α] (enc : α → List Value) (k : Nat) (e : TypeId) (w : World) (g : Nat) (xs : List α) : Prop where
  at_ : 0 < xs.length → ∃ cur : Array Value, w.heap[g]? = some (.cells cur e (0, 0)) ∧ xs.length * k ≤ cur.size ∧ ∀ i, i < xs.length → ∀ (r : Nat) (v : Value), (enc (nth xs i))[r]? = some v → cur[i * k + r]? = some v
section
variable {α : Type} [Inhabited α] {enc : α → List Value} {k : Nat} {e : TypeId} {w w' : World} {g : Nat} {xs : List α}
theorem Acc.wr {base : Nat} {ao : Option Addr} {cap : Nat} (h : Acc enc k e base w ao g cap xs) (hk : ∀ x, (enc x).length = k) : Wr enc k e w g xs := ⟨fun hp => by
  rcases h.at_ with ⟨_, h1, _⟩ | ⟨_, _, cur, hc, hl, _, hsz, htk⟩
  · subst h1; simp at hp
  · refine ⟨cur, hc, by rw [hsz]; exact Nat.mul_le_mul_right k hl, fun i hi r v hv => ?_⟩
    have h1 := flatMap_at hk xs i r v hi hv
    rw [← htk, List.getElem?_take] at h1
    split at h1
    · simpa using h1
    · cases h1⟩
theorem Wr.lt (h : Wr enc k e w g xs) (hp : 0 < xs.length) : g < w.heap.size := by
  obtain ⟨cur, hc, _⟩ := h.at_ hp
  exact (Array.getElem?_eq_some_iff.1 hc).1
theorem Wr.keep {S : Nat → Prop} (h : Wr enc k e w g xs) (u : Upd S w w') (hn : 0 < xs.length → ¬ S g) : Wr enc k e w' g xs := ⟨fun hp => by
  obtain ⟨cur, hc, hr⟩ := h.at_ hp
  exact ⟨cur, (u.block g (h.lt hp) (hn hp)).trans hc, hr⟩⟩
theorem Wr.sl {ao : Option Addr} (h : Wr enc k e w g xs) (ha : 0 < xs.length → ao = some ⟨g, 0, none⟩) : Sl enc k w ao g 0 xs :=
  ⟨ha, h.lt, fun i hi j v hv => by
    obtain ⟨cur, hc, hs, hr⟩ := h.at_ (by omega)
    have hB : Blk w g e cur.toList := by simpa [Blk] using hc
    rw [Nat.zero_add]
    exact hB.get (by simpa using hr i hi j v hv)⟩
end
section
variable {rd : Option Nat} {P : Program} {ops : Array Oper} {Q : Exit → Act → World → Prop} {N : Nat} {ds : List Deferred} {rest : List Oper} {L : Slots} {w : World}
variable {ty : TypeId} {pos : String} {aft : Array Edge} {gd : Option (Nat × Bool)}
end
end Go.Proofs.YtagmkfbbhfaceaaGreatDoor
namespace Go.Proofs.YtagmkfbbhfaceaaGreatDoor
open Go Go.RowKit
/-- A gathered slice, put together again from its elements. -/
theorem Acc.ofWr {α : Type} [Inhabited α] {enc : α → List Value} {k : Nat} {e : TypeId} {base : Nat} {w w' : World} {ao : Option Addr} {g cap : Nat} {xs ys : List α} (h : Acc enc k e base w ao g cap xs) (hk : ∀ x, (enc x).length = k) (hp : 0 < xs.length)
    (hw : Wr enc k e w' g ys) (hl : ys.length = xs.length) (hsz : ∀ cur : Array Value, w.heap[g]? = some (.cells cur e (0, 0)) → ∃ cur' : Array Value, w'.heap[g]? = some (.cells cur' e (0, 0)) ∧ cur'.size = cur.size) : Acc enc k e base w' ao g cap ys := by
  rcases h.at_ with ⟨_, h1, _⟩ | ⟨h1, h2, cur, h3, h4, h5, h6, _⟩
  · subst h1; simp at hp
  · obtain ⟨cur', hc, hs⟩ := hsz cur h3
    obtain ⟨cur2, hc2, hs2, hr⟩ := hw.at_ (by omega)
    rw [hc] at hc2
    injection hc2 with hc2
    injection hc2 with hc2
    subst hc2
    refine ⟨lt_of_block hc, .inr ⟨h1, h2, cur', hc, by omega, h5, by rw [hs, h6], ?_⟩⟩
    refine List.ext_getElem? fun q => ?_
    by_cases hq : q < ys.length * k
    · have hk0 : 0 < k := by
        rcases Nat.eq_zero_or_pos k with h | h
        · subst h; simp at hq
        · exact h
      have hi : q / k < ys.length := (Nat.div_lt_iff_lt_mul hk0).2 hq
      have hqr : q / k * k + q % k = q := by rw [Nat.mul_comm]; exact Nat.div_add_mod q k
      have hlt : q % k < (enc (nth ys (q / k))).length := by rw [hk]; exact Nat.mod_lt _ hk0
      have hv := List.getElem?_eq_getElem hlt
      have e1 := hr (q / k) hi (q % k) _ hv
      have e2 := flatMap_at hk ys (q / k) (q % k) _ hi hv
      rw [hqr] at e1 e2
      rw [List.getElem?_take, if_pos hq, e2]
      simpa using e1
    · rw [List.getElem?_eq_none (by rw [List.length_take]; omega), List.getElem?_eq_none (by rw [flatMap_len hk]; omega)]
theorem wr_set {α : Type} [Inhabited α] {enc : α → List Value} {k : Nat} {e : TypeId} {w w' : World} {g j o' off n : Nat} {xs : List α} {vs : List Value} {x' : α} {cur : List Value} (hk : ∀ x, (enc x).length = k) (hw : Wr enc k e w g xs) (hj : j < xs.length) (hB : Blk w g e cur) (hB' : Blk w' g e (lay cur off vs)) (hn : vs.length = n) (hl : o' + n ≤ k) (hx' : enc x' = lay (enc (nth xs j)) o' vs) (hoff : off = j * k + o') : Wr enc k e w' g (xs.set j x') := by
  subst hoff
  obtain ⟨cur2, hcur, hsz, hr⟩ := hw.at_ (by omega)
  have e1 : cur2 = cur.toArray := by
    have : w.heap[g]? = some (.cells cur.toArray e (0, 0)) := hB
    rw [hcur] at this
    injection this with this
    injection this with this
  subst e1
  have hjk : (j + 1) * k ≤ xs.length * k := Nat.mul_le_mul_right k hj
  rw [Nat.add_mul, Nat.one_mul] at hjk
  rw [List.size_toArray] at hsz
  have hle : j * k + o' + n ≤ cur.length := by omega
  refine ⟨fun hp => ⟨(lay cur (j * k + o') vs).toArray, hB', by rw [List.length_set, List.size_toArray, lay_length]; exact hsz, fun i hi r z hz => ?_⟩⟩
  rw [List.length_set] at hi
  rw [List.getElem?_toArray, lay_get _ _ _ _ (by rw [hn]; exact hle)]
  by_cases hij : i = j
  · subst hij
    rw [show nth (xs.set i x') i = x' by simp [nth, List.getD_eq_getElem?_getD, hi]] at hz
    rw [hx', lay_get _ _ _ _ (by rw [hn, hk]; exact hl)] at hz
    by_cases hc1 : o' ≤ r ∧ r < o' + vs.length
    · rw [if_pos hc1] at hz
      rw [if_pos (by omega), show i * k + r - (i * k + o') = r - o' by omega]; exact hz
    · rw [if_neg hc1] at hz
      rw [if_neg (by omega)]
      have := hr i hi r z hz
      simpa using this
  · rw [show nth (xs.set j x') i = nth xs i by simp [nth, List.getD_eq_getElem?_getD, List.getElem?_set_ne (Ne.symm hij)]] at hz
    have hrk : r < k := by
      have := (List.getElem?_eq_some_iff.1 hz).1
      rwa [hk] at this
    have := hr i hi r z hz
    rw [if_neg ?_]
    · simpa using this
    · intro hcc
      rcases Nat.lt_or_gt_of_ne hij with h1 | h1
      · have : (i + 1) * k ≤ j * k := Nat.mul_le_mul_right k h1
        rw [Nat.add_mul, Nat.one_mul] at this
        omega
      · have : (j + 1) * k ≤ i * k := Nat.mul_le_mul_right k h1
        rw [Nat.add_mul, Nat.one_mul] at this
        omega
section
variable {rd : Option Nat} {P : Program} {ops : Array Oper} {Q : Exit → Act → World → Prop} {N : Nat} {ds : List Deferred} {rest : List Oper} {L : Slots} {w : World}
variable {ty : TypeId} {pos : String} {aft : Array Edge} {gd : Option (Nat × Bool)}
/-- A store into an element of a gathered slice: the element is x'. -/
theorem t_storeA {α : Type} [Inhabited α] {enc : α → List Value} {k : Nat} {u e : TypeId} {x y : Operand} {base : Nat} {ao : Option Addr} {g cap j o' off n : Nat} {xs : List α} {vs : List Value} {v : Value} (x' : α) (hk : ∀ x, (enc x).length = k) (hs : ∀ w, (sizeOf u).run P w = .ok n w) (hg : grd ops L gd = true)
    (hx : ev L x = some (.pointer (some ⟨g, off, none⟩))) (hoff : off = j * k + o') (hy : ev L y = some v) (hw : Acc enc k e base w ao g cap xs) (hj : j < xs.length) (hc : v.cells = vs.toArray) (hn : vs.length = n) (hl : o' + n ≤ k) (hv : ∀ v ∈ vs, v.oneCell' = true) (hx' : enc x' = lay (enc (nth xs j)) o' vs)
    (h : ∀ w', Acc enc k e base w' ao g cap (xs.set j x') → Upd (· = g) w w' → WL rd P ops Q N ds rest L w') :
    WL rd P ops Q N ds (⟨none, .store u x y, ty, pos, aft, gd⟩ :: rest) L w := by
  have hwr := hw.wr hk
  obtain ⟨cur, hcur, hsz, hr⟩ := hwr.at_ (by omega)
  have hB : Blk w g e cur.toList := by simpa [Blk] using hcur
  have hjk : (j + 1) * k ≤ xs.length * k := Nat.mul_le_mul_right k hj
  rw [Nat.add_mul, Nat.one_mul] at hjk
  have hle : off + n ≤ cur.toList.length := by rw [Array.length_toList, hoff]; omega
  refine t_store (b := g) (t := e) hs hg hx hy hB hc hn hle hv fun w' hsize hB' hu => ?_
  refine h w' (hw.ofWr hk (by omega) (ys := xs.set j x') ?_ (by rw [List.length_set]) fun c2 hc2 => ?_) hu
  · exact wr_set hk hwr hj hB hB' hn hl hx' hoff
  · rw [hcur] at hc2
    injection hc2 with hc2
    injection hc2 with hc2
    subst hc2
    exact ⟨(lay cur.toList off vs).toArray, hB', by rw [List.size_toArray, lay_length, Array.length_toList]⟩
end
end Go.Proofs.YtagmkfbbhfaceaaGreatDoor
