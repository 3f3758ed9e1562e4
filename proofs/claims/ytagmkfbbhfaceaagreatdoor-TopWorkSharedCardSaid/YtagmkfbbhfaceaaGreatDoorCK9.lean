/-
  Part 9 of the proof: contracts and plain laws. Conditions: none.
-/
import Derived.Test.YtagmkfbbhfaceaaGreatDoorCK8
namespace Go.Proofs.YtagmkfbbhfaceaaGreatDoor
open Go Go.RowKit Go.Proofs.Tryz
set_option maxRecDepth 10000
/-- the tons of a bill, or of all for 0 -/
def tonP (bill : Int) : List Crg → Int
  | [] => 0
  | x :: l => (if bill = 0 ∨ x.b = bill then x.t else 0) + tonP bill l
theorem tonP_app (bill : Int) : ∀ (l m : List Crg), tonP bill (l ++ m) = tonP bill l + tonP bill m
  | [], m => by simp [tonP]
  | x :: l, m => by simp only [List.cons_append, tonP, tonP_app bill l m]; omega
theorem tonP_snoc (bill : Int) (l : List Crg) (x : Crg) : tonP bill (l ++ [x]) = tonP bill l + (if bill = 0 ∨ x.b = bill then x.t else 0) := by rw [tonP_app]; simp [tonP]
theorem tonP_range {bill : Int} : ∀ {l : List Crg}, (∀ x ∈ l, 0 ≤ x.t ∧ x.t ≤ 1000000000000) → 0 ≤ tonP bill l ∧ tonP bill l ≤ 1000000000000 * (l.length : Int)
  | [], _ => by simp [tonP]
  | x :: l, h => by
    have h1 := tonP_range (bill := bill) (l := l) fun y hy => h y (List.mem_cons_of_mem _ hy)
    have h2 := h x (List.mem_cons_self ..)
    unfold tonP
    rw [List.length_cons]
    split <;> omega
/-- tons are booked in a list -/
def bookP (bill tons : Int) : List Crg → List Crg
  | [] => if tons = 0 then [] else [⟨bill, tons⟩]
  | x :: r => if x.b < bill then x :: bookP bill tons r else if x.b = bill then (if x.t + tons = 0 then r else ⟨bill, x.t + tons⟩ :: r) else if tons = 0 then x :: r else ⟨bill, tons⟩ :: x :: r
theorem isK_iff {α : Type} [Inhabited α] {ky : α → Int} {n : Int} {l : List α} : isK ky n l = true ↔ posK ky n l < l.length ∧ ky (nth l (posK ky n l)) = n := by unfold isK; rw [decide_eq_true_eq]
theorem bookP_is {bill tons : Int} : ∀ {l : List Crg}, posK (fun x : Crg => x.b) bill l < l.length → (nth l (posK (fun x : Crg => x.b) bill l)).b = bill →
    bookP bill tons l = (if (nth l (posK (fun x : Crg => x.b) bill l)).t + tons = 0 then l.take (posK (fun x : Crg => x.b) bill l) ++ l.drop (posK (fun x : Crg => x.b) bill l + 1) else l.set (posK (fun x : Crg => x.b) bill l) ⟨bill, (nth l (posK (fun x : Crg => x.b) bill l)).t + tons⟩)
  | [], h, _ => absurd h (Nat.not_lt_zero _)
  | x :: l, h, e => by
    unfold bookP posK
    unfold posK at h e
    by_cases hx : x.b < bill
    · simp only [if_pos hx] at h e ⊢
      have h1 : posK (fun x : Crg => x.b) bill l < l.length := by simpa using h
      rw [bookP_is h1 e]
      show x :: (if (nth l (posK (fun x : Crg => x.b) bill l)).t + tons = 0 then _ else _) = if (nth l (posK (fun x : Crg => x.b) bill l)).t + tons = 0 then _ else _
      split <;> rfl
    · simp only [if_neg hx] at h e ⊢
      have e : x.b = bill := e
      rw [if_pos e]; rfl
theorem bookP_no {bill tons : Int} : ∀ {l : List Crg}, ¬ (posK (fun x : Crg => x.b) bill l < l.length ∧ (nth l (posK (fun x : Crg => x.b) bill l)).b = bill) →
    bookP bill tons l = (if tons = 0 then l else l.take (posK (fun x : Crg => x.b) bill l) ++ ⟨bill, tons⟩ :: l.drop (posK (fun x : Crg => x.b) bill l))
  | [], _ => by unfold bookP posK; split <;> rfl
  | x :: l, h => by
    unfold bookP posK
    unfold posK at h
    by_cases hx : x.b < bill
    · simp only [if_pos hx] at h ⊢
      rw [bookP_no (l := l) fun q => h ⟨by simpa using q.1, q.2⟩]
      split <;> rfl
    · simp only [if_neg hx] at h ⊢
      have e : ¬ x.b = bill := fun q => h ⟨by simp, q⟩
      rw [if_neg e]; rfl
/-- A list of cargo in order. -/
def CgOk (T : Int) (l : List Crg) : Prop := Asc (fun x : Crg => x.b) l ∧ ∀ x ∈ l, (1 ≤ x.b ∧ x.b ≤ 9999) ∧ (1 ≤ x.t ∧ x.t ≤ T)
theorem Asc.len {α : Type} [Inhabited α] {ky : α → Int} {l : List α} {m : Int} (h : Asc ky l) (hr : ∀ x ∈ l, 1 ≤ ky x ∧ ky x ≤ m) (hm : 0 ≤ m) : (l.length : Int) ≤ m := by
  have h1 : ∀ i, i < l.length → (i : Int) + 1 ≤ ky (nth l i) := fun i => by
    induction i with
    | zero => intro hi; have := (hr _ (nth_mem hi)).1; omega
    | succ i ih => intro hi; have := ih (by omega); have := h i (i + 1) (by omega) hi; omega
  rcases Nat.eq_zero_or_pos l.length with e | e
  · omega
  · have h2 := h1 (l.length - 1) (by omega)
    have h3 := (hr _ (nth_mem (show l.length - 1 < l.length by omega))).2
    omega
theorem CgOk.len {T : Int} {l : List Crg} (h : CgOk T l) : l.length ≤ 9999 := by
  have := h.1.len (m := 9999) (fun x hx => (h.2 x hx).1) (by decide)
  omega
theorem ins_nth {α : Type} [Inhabited α] {l : List α} {k : Nat} (h : k ≤ l.length) (s : α) : nth (l.take k ++ s :: l.drop k) k = s ∧ (l.take k ++ s :: l.drop k).length = l.length + 1 := by
  have h1 : (l.take k).length = k := by rw [List.length_take]; omega
  refine ⟨?_, by rw [List.length_append, List.length_cons, h1, List.length_drop]; omega⟩
  unfold nth
  rw [List.getD_eq_getElem?_getD, List.getElem?_append_right (by omega), h1]
  simp
theorem set_less {α : Type} (l : List α) (k : Nat) (s : α) : (l.set k s).take k ++ (l.set k s).drop (k + 1) = l.take k ++ l.drop (k + 1) := by
  rw [List.take_set_of_le (Nat.le_refl _), List.drop_set_of_lt (by omega)]
theorem ins_less {α : Type} {l : List α} {k : Nat} (h : k ≤ l.length) (s : α) : (l.take k ++ s :: l.drop k).take k ++ (l.take k ++ s :: l.drop k).drop (k + 1) = l := by
  have h1 : (l.take k).length = k := by rw [List.length_take]; omega
  rw [List.take_left' h1, List.drop_append, h1, List.drop_of_length_le (by omega), show k + 1 - k = 1 by omega]
  simp
theorem ins_set {α : Type} {l : List α} {k : Nat} (h : k ≤ l.length) (s t : α) : (l.take k ++ s :: l.drop k).set k t = l.take k ++ t :: l.drop k := by
  have h1 : (l.take k).length = k := by rw [List.length_take]; omega
  rw [List.set_append_right _ _ (by omega), h1, Nat.sub_self]; rfl
theorem nth_setE {α : Type} [Inhabited α] {l : List α} {k : Nat} (h : k < l.length) (s : α) : nth (l.set k s) k = s := by
  unfold nth; rw [List.getD_eq_getElem?_getD, List.getElem?_set_self h]; rfl
theorem set_same {α : Type} {cs : List α} {i : Nat} {v : α} (h : cs[i]? = some v) : cs.set i v = cs := by
  obtain ⟨h1, h2⟩ := List.getElem?_eq_some_iff.1 h
  rw [← h2, List.set_getElem_self]
theorem aboard_c (hb off : Nat) (x : HR) (bill : Int) (w0 : World) (hA : At w0 hb off (encHR x)) (_hb0 : hb < w0.heap.size) (hc : Sl encCrg 2 w0 x.ao x.g x.o x.c) (hct : ∀ y ∈ x.c, 0 ≤ y.t ∧ y.t ≤ 1000000000000) (hcl : x.c.length ≤ 9999) :
    CallsV Tryz.prog 138 [.pointer (some ⟨hb, off, none⟩), .int .i64 bill] w0 (fun v w' => v = .int .i64 (tonP bill x.c) ∧ Ext w0 w') := by
 refine f_n func138 ?_
 refine go ?_
 refine t_load isAgg64 rfl rfl rfl (hA 2 _ rfl) ?_
 refine go ?_
 refine x_l1 (fun _ => False) [1, 10, 11] (fun (i : Nat) => [(4, .int .i64 (tonP bill (x.c.take i))), (12, .int .i64 (i : Int))]) (fun i w => (i ≤ x.c.length)) (fun i => x.c.length - i) 0 (Nat.zero_le _) ?_
 rintro i w5 hi u6 zu6 K4 hK4
 have hr0 := tonP_range (bill := bill) (l := x.c.take i) fun y hy => hct y (List.mem_of_mem_take hy)
 have hil : (x.c.take i).length = i := by rw [List.length_take]; omega
 rw [hil] at hr0
 refine go ?_
 refine q_p (fun g13 => ?_) fun g13 => ?_
 ·
  have hx1 := hct _ (nth_mem (show i < x.c.length by omega))
  refine go ?_
  refine g_i i (hc.keep ((Upd.refl (fun _ => False) w0).nx u6) (fun _ h => h)) (fun _ => ?_)
  refine go ?_
  refine x_n fun bk13 w14 ebk13 sbk13 B15 u16 => ?_
  refine x_s fun w18 sw18 B20 u19 => ?_
  refine go ?_
  refine t_splitp 18 rfl (fun g18 => ?_) (fun g18 => ?_)
  ·
   refine go ?_
   exact hK4 (i + 1) (by omega) (hs := by exact ⟨(congrArg (fun z => some (Value.int .i64 z)) (by rw [take_nth (by omega), tonP_snoc]; split <;> omega)), rfl, rfl, rfl, rfl, trivial⟩)
  refine go ?_
  refine q_p (fun g23 => ?_) fun g23 => ?_
  ·
   refine go ?_
   exact hK4 (i + 1) (by omega) (hs := by exact ⟨(congrArg (fun z => some (Value.int .i64 z)) (by rw [take_nth (by omega), tonP_snoc]; split <;> omega)), rfl, rfl, rfl, rfl, trivial⟩)
  refine go ?_
  exact hK4 (i + 1) (by omega) (hs := by exact ⟨(congrArg (fun z => some (Value.int .i64 z)) (by rw [take_nth (by omega), tonP_snoc]; split <;> omega)), rfl, rfl, rfl, rfl, trivial⟩)
 refine go ?_
 refine f_1 results138 ?_
 exact ⟨by rw [show x.c.take i = x.c from List.take_of_length_le (by omega)], u_d⟩

theorem deleteC_c (l : List Crg) (ao : Option Addr) (gb cap base k : Nat) (w0 : World) (ha : Acc encCrg 2 72 base w0 ao gb cap l) (hk : k < l.length) (hll : l.length ≤ 100000) :
    CallsV Tryz.prog 182 [.slice ao l.length cap, .int .i64 (k : Int), .int .i64 ((k + 1 : Nat) : Int)] w0 (fun v w' => (v = .slice ao (List.length (l.take k ++ l.drop (k + 1))) cap ∧ Acc encCrg 2 72 base w' ao gb cap (l.take k ++ l.drop (k + 1))) ∧ Upd (fun i => i = gb ∧ base ≤ i) w0 w') := by
  obtain ⟨h1, _⟩ := Acc.raw ha (.inr (by omega))
  subst h1
  exact delete0_c l gb cap base k w0 ha hk hll

set_option maxHeartbeats 4000000 in
theorem book0_c (pb po : Nat) (cs : List Value) (t : TypeId) (ao : Option Addr) (gb cp base : Nat) (l : List Crg) (bill tons : Int) (k : Nat) (bb : Bool) (w0 : World) (hP : Blk w0 pb t cs) (hpo : cs[po]? = some (.slice ao l.length cp)) (ha : Acc encCrg 2 72 base w0 ao gb cp l) (hne : base ≤ gb → gb ≠ pb) (hbs : base ≤ w0.heap.size) (hok : CgOk 1000000000000 l) (hb : 1 ≤ bill ∧ bill ≤ 9999) (ht : -1000000 ≤ tons ∧ tons ≤ 1000000) (hkd : posK (fun x : Crg => x.b) bill l = k) (hbb : isK (fun x : Crg => x.b) bill l = bb) :
    CallsV Tryz.prog 139 [.pointer (some ⟨pb, po, none⟩), .int .i64 bill, .int .i64 tons] w0 (fun _ w' => (∃ a9 g9 c9, Blk w' pb t (cs.set po (.slice a9 (bookP bill tons l).length c9)) ∧ Acc encCrg 2 72 base w' a9 g9 c9 (bookP bill tons l) ∧ (g9 = gb ∨ w0.heap.size ≤ g9)) ∧ Upd (fun i => i = pb ∨ (i = gb ∧ base ≤ i)) w0 w') := by
 have hps := posK_spec (fun x : Crg => x.b) bill l
 rw [hkd] at hps
 obtain ⟨hk, -, -⟩ := hps
 have hbi : bb = true ↔ k < l.length ∧ (nth l k).b = bill := by rw [← hbb, isK_iff, hkd]
 have hll := hok.len
 have lt_gb := ha.lt
 have lt_pb := hP.lt
 have hpl : po + 1 ≤ cs.length := by have := (List.getElem?_eq_some_iff.1 hpo).1; omega
 refine f_n func139 ?_
 refine go ?_
 refine t_load isAgg35 rfl rfl rfl (hP.get hpo) ?_
 refine go ?_
 refine x_c func179 rfl rfl (by have h9 := searchC_c l ao gb 0 cp bill _ (ha.sl (fun _ => rfl)) hok.1 (by omega) (fun x hx => by have := (hok.2 x hx).1; omega) (by omega); rw [hkd, hbb] at h9; exact h9) ?_
 rintro _ w3 ⟨rfl, u4⟩ zu4
 refine go ?_
 refine q_b (fun g17 => ?_) fun g17 => ?_
 ·
  have hno : ¬ (k < l.length ∧ (nth l k).b = bill) := fun h => by have h8 := hbi.2 h; simp [h8] at g17
  refine go ?_
  refine t_load isAgg35 rfl rfl rfl ((hP.kx u4).get hpo) ?_
  refine go ?_
  refine x_l fun bk9 w10 ebk9 sbk9 B11 u12 => ?_
  have D14 := ((ha.keep u4 (fun _ h => h)).keep u12 (fun _ h => h))
  have lbv := B11.lt
  refine x_c func181 rfl rfl (insertC_c l ao gb cp base k bk9 ⟨bill, 0⟩ _ D14 hk (by omega) (by omega) B11 (by omega)) ?_
  rintro _ w16 ⟨⟨a1, g1, c1, rfl, hA1, hg1⟩, u17⟩ zu17
  obtain ⟨hn1, hm1⟩ := ins_nth (l := l) hk (⟨bill, 0⟩ : Crg)
  have hs1 := ins_set (l := l) hk (⟨bill, 0⟩ : Crg) ⟨bill, tons⟩
  have hd1 := ins_less (l := l) hk (⟨bill, 0⟩ : Crg)
  obtain ⟨l1, hl1⟩ : ∃ l1, l.take k ++ (⟨bill, 0⟩ : Crg) :: l.drop k = l1 := ⟨_, rfl⟩
  rw [hl1] at hA1 hn1 hm1 hs1 hd1 ⊢
  have hz1 : (nth l1 k).t = 0 := by rw [hn1]
  have hbg1 := hA1.ge (by omega)
  have hne1 : g1 ≠ pb := fun e => by
    rcases hg1 with q | q
    · exact hne (by omega) (by omega)
    · omega
  have lt_g1 := hA1.lt
  refine go ?_
  refine t_store (vs := [.slice a1 l1.length c1]) sizeOf35 rfl rfl rfl (((hP.kx u4).kx u12).keep u17 (by omega)) rfl rfl (by simpa using hpl) (by simp [Value.oneCell']) (fun w20 sw20 (B22 : Blk _ pb t (List.set cs po (.slice a1 l1.length c1))) u21 => ?_)
  have hplx : po + 1 ≤ (List.set cs po (.slice a1 l1.length c1)).length := by rw [List.length_set]; exact hpl
  have hpox : (List.set cs po (.slice a1 l1.length c1))[po]? = some (.slice a1 l1.length c1) := List.getElem?_set_self (by omega)
  refine go ?_
  refine t_load isAgg35 rfl rfl rfl (B22.get hpox) ?_
  refine go ?_
  have D25 := (hA1.keep u21 (fun hb => show ¬ (g1 = pb) by first | omega | assumption))
  refine g_i k (D25.sl (fun _ => rfl)) (fun _ => ?_)
  refine go ?_
  refine g_i k (D25.sl (fun _ => rfl)) (fun _ => ?_)
  refine go ?_
  refine t_storeA (vs := [.int .i64 ((nth l1 k).t + tons)]) (j := k) (o' := 1) (k := 2) (⟨bill, (nth l1 k).t + tons⟩) (fun _ => rfl) sizeOf3 rfl rfl (by omega) rfl D25 (by first | omega | (simp only [List.length_set, eRuns_len]; omega)) rfl rfl (by decide) (by simp [Value.oneCell']) (by rw [hn1]; rfl) (fun w28 R30 u29 => ?_)
  have zu29 := u29.size
  refine go ?_
  refine t_load isAgg35 rfl rfl rfl ((B22.keep u29 (by omega)).get hpox) ?_
  refine go ?_
  have i33 : k < (l1.set k (⟨bill, (nth l1 k).t + tons⟩)).length := (by rw [List.length_set]; omega)
  refine g_i k (R30.sl (fun _ => rfl)) (fun _ => ?_)
  iterate 2 refine st1 ?_
  refine t_same 45 (v := .int .i64 ((nth l1 k).t + tons)) rfl (congrArg (Value.int .i64) (by rw [nth_setE (by omega)])) ?_
  refine go ?_
  refine q_p (fun g46 => ?_) fun g46 => ?_
  ·
   refine go ?_
   refine t_load isAgg35 rfl rfl rfl ((B22.keep u29 (by omega)).get hpox) ?_
   refine go ?_
   refine x_c func182 rfl rfl (by have h9 := deleteC_c (l1.set k (⟨bill, (nth l1 k).t + tons⟩)) a1 g1 c1 base k _ R30 (by rw [List.length_set]; omega) (by rw [List.length_set]; omega); rw [List.length_set] at h9; exact h9) ?_
   rintro _ w35 ⟨⟨rfl, hA2⟩, u36⟩ zu36
   have lt_g1 := hA2.lt
   refine go ?_
   refine t_store (vs := [.slice a1 (List.length ((l1.set k (⟨bill, (nth l1 k).t + tons⟩)).take k ++ (l1.set k (⟨bill, (nth l1 k).t + tons⟩)).drop (k + 1))) c1]) sizeOf35 rfl rfl rfl ((B22.keep u29 (by omega)).keep u36 (by omega)) rfl rfl (by simpa using hplx) (by simp [Value.oneCell']) (fun w39 sw39 (B41 : Blk _ pb t (List.set (List.set cs po (.slice a1 l1.length c1)) po (.slice a1 (List.length ((l1.set k (⟨bill, (nth l1 k).t + tons⟩)).take k ++ (l1.set k (⟨bill, (nth l1 k).t + tons⟩)).drop (k + 1))) c1))) u40 => ?_)
   rw [List.set_set] at B41
   have hplxx : po + 1 ≤ (List.set cs po (.slice a1 (List.length ((l1.set k (⟨bill, (nth l1 k).t + tons⟩)).take k ++ (l1.set k (⟨bill, (nth l1 k).t + tons⟩)).drop (k + 1))) c1)).length := by rw [List.length_set]; exact hpl
   have hpoxx : (List.set cs po (.slice a1 (List.length ((l1.set k (⟨bill, (nth l1 k).t + tons⟩)).take k ++ (l1.set k (⟨bill, (nth l1 k).t + tons⟩)).drop (k + 1))) c1))[po]? = some (.slice a1 (List.length ((l1.set k (⟨bill, (nth l1 k).t + tons⟩)).take k ++ (l1.set k (⟨bill, (nth l1 k).t + tons⟩)).drop (k + 1))) c1) := List.getElem?_set_self (by omega)
   refine go ?_
   refine f_ret0 results139 ?_
   have D43 := (hA2.keep u40 (fun hb => show ¬ (g1 = pb) by first | omega | assumption))
   have he : bookP bill tons l = ((l1.set k (⟨bill, (nth l1 k).t + tons⟩)).take k ++ (l1.set k (⟨bill, (nth l1 k).t + tons⟩)).drop (k + 1)) := by
     rw [bookP_no (by rw [hkd]; exact hno)]
     rw [if_pos (by omega), set_less, hd1]
   rw [he]
   exact ⟨⟨a1, g1, c1, B41, D43, (by omega)⟩, u_d⟩
  refine go ?_
  refine f_ret0 results139 ?_
  have he : bookP bill tons l = (l1.set k (⟨bill, (nth l1 k).t + tons⟩)) := by
    rw [bookP_no (by rw [hkd]; exact hno)]
    rw [if_neg (by omega), hkd, ← hs1, hz1, Int.zero_add]
  rw [he]
  exact ⟨⟨a1, g1, c1, by rw [List.length_set]; exact (B22.keep u29 (by omega)), R30, (by omega)⟩, u_d⟩
 have his := hbi.1 (by simpa using g17)
 have hx1 := (hok.2 _ (nth_mem his.1)).2
 have hbg0 := ha.ge (by omega)
 have hne1 : gb ≠ pb := hne hbg0
 refine go ?_
 refine t_load isAgg35 rfl rfl rfl ((hP.kx u4).get hpo) ?_
 refine go ?_
 have D45 := (ha.keep u4 (fun _ h => h))
 refine g_i k (D45.sl (fun _ => rfl)) (fun _ => ?_)
 refine go ?_
 refine g_i k (D45.sl (fun _ => rfl)) (fun _ => ?_)
 refine go ?_
 refine t_storeA (vs := [.int .i64 ((nth l k).t + tons)]) (j := k) (o' := 1) (k := 2) (⟨bill, (nth l k).t + tons⟩) (fun _ => rfl) sizeOf3 rfl rfl (by omega) rfl D45 (by first | omega | (simp only [List.length_set, eRuns_len]; omega)) rfl rfl (by decide) (by simp [Value.oneCell']) (by rw [← his.2]; rfl) (fun w48 R50 u49 => ?_)
 have zu49 := u49.size
 refine go ?_
 refine t_load isAgg35 rfl rfl rfl (((hP.kx u4).keep u49 (by omega)).get hpo) ?_
 refine go ?_
 have i53 : k < (l.set k (⟨bill, (nth l k).t + tons⟩)).length := (by rw [List.length_set]; omega)
 refine g_i k (R50.sl (fun _ => rfl)) (fun _ => ?_)
 iterate 2 refine st1 ?_
 refine t_same 45 (v := .int .i64 ((nth l k).t + tons)) rfl (congrArg (Value.int .i64) (by rw [nth_setE (by omega)])) ?_
 refine go ?_
 refine q_p (fun g46 => ?_) fun g46 => ?_
 ·
  refine go ?_
  refine t_load isAgg35 rfl rfl rfl (((hP.kx u4).keep u49 (by omega)).get hpo) ?_
  refine go ?_
  refine x_c func182 rfl rfl (by have h9 := deleteC_c (l.set k (⟨bill, (nth l k).t + tons⟩)) ao gb cp base k _ R50 (by rw [List.length_set]; omega) (by rw [List.length_set]; omega); rw [List.length_set] at h9; exact h9) ?_
  rintro _ w55 ⟨⟨rfl, hA2⟩, u56⟩ zu56
  have lt_gb := hA2.lt
  refine go ?_
  refine t_store (vs := [.slice ao (List.length ((l.set k (⟨bill, (nth l k).t + tons⟩)).take k ++ (l.set k (⟨bill, (nth l k).t + tons⟩)).drop (k + 1))) cp]) sizeOf35 rfl rfl rfl (((hP.kx u4).keep u49 (by omega)).keep u56 (by omega)) rfl rfl (by simpa using hpl) (by simp [Value.oneCell']) (fun w59 sw59 (B61 : Blk _ pb t (List.set cs po (.slice ao (List.length ((l.set k (⟨bill, (nth l k).t + tons⟩)).take k ++ (l.set k (⟨bill, (nth l k).t + tons⟩)).drop (k + 1))) cp))) u60 => ?_)
  have hplx : po + 1 ≤ (List.set cs po (.slice ao (List.length ((l.set k (⟨bill, (nth l k).t + tons⟩)).take k ++ (l.set k (⟨bill, (nth l k).t + tons⟩)).drop (k + 1))) cp)).length := by rw [List.length_set]; exact hpl
  have hpox : (List.set cs po (.slice ao (List.length ((l.set k (⟨bill, (nth l k).t + tons⟩)).take k ++ (l.set k (⟨bill, (nth l k).t + tons⟩)).drop (k + 1))) cp))[po]? = some (.slice ao (List.length ((l.set k (⟨bill, (nth l k).t + tons⟩)).take k ++ (l.set k (⟨bill, (nth l k).t + tons⟩)).drop (k + 1))) cp) := List.getElem?_set_self (by omega)
  refine go ?_
  refine f_ret0 results139 ?_
  have D63 := (hA2.keep u60 (fun hb => show ¬ (gb = pb) by first | omega | assumption))
  have he : bookP bill tons l = ((l.set k (⟨bill, (nth l k).t + tons⟩)).take k ++ (l.set k (⟨bill, (nth l k).t + tons⟩)).drop (k + 1)) := by
    rw [bookP_is (by rw [hkd]; exact his.1) (by rw [hkd]; exact his.2)]
    rw [hkd, if_pos (by omega)]; rw [set_less]
  rw [he]
  exact ⟨⟨ao, gb, cp, B61, D63, (by omega)⟩, u_d⟩
 refine go ?_
 refine f_ret0 results139 ?_
 have he : bookP bill tons l = (l.set k (⟨bill, (nth l k).t + tons⟩)) := by
   rw [bookP_is (by rw [hkd]; exact his.1) (by rw [hkd]; exact his.2)]
   rw [hkd, if_neg (by omega)]
 rw [he]
 exact ⟨⟨ao, gb, cp, by rw [List.length_set, set_same hpo]; exact ((hP.kx u4).keep u49 (by omega)), R50, (by omega)⟩, u_d⟩

theorem book_c (pb po : Nat) (cs : List Value) (t : TypeId) (ao : Option Addr) (gb cp base : Nat) (l : List Crg) (bill tons : Int) (w0 : World) (hP : Blk w0 pb t cs) (hpo : cs[po]? = some (.slice ao l.length cp)) (ha : Acc encCrg 2 72 base w0 ao gb cp l) (hne : base ≤ gb → gb ≠ pb) (hbs : base ≤ w0.heap.size) (hok : CgOk 1000000000000 l) (hb : 1 ≤ bill ∧ bill ≤ 9999) (ht : -1000000 ≤ tons ∧ tons ≤ 1000000) :
    CallsV Tryz.prog 139 [.pointer (some ⟨pb, po, none⟩), .int .i64 bill, .int .i64 tons] w0 (fun _ w' => (∃ a9 g9 c9, Blk w' pb t (cs.set po (.slice a9 (bookP bill tons l).length c9)) ∧ Acc encCrg 2 72 base w' a9 g9 c9 (bookP bill tons l) ∧ (g9 = gb ∨ w0.heap.size ≤ g9)) ∧ Upd (fun i => i = pb ∨ (i = gb ∧ base ≤ i)) w0 w') :=
  book0_c pb po cs t ao gb cp base l bill tons _ _ w0 hP hpo ha hne hbs hok hb ht rfl rfl

end Go.Proofs.YtagmkfbbhfaceaaGreatDoor
namespace Go.Proofs.YtagmkfbbhfaceaaGreatDoor
open Go Go.RowKit
set_option maxRecDepth 10000
theorem cells_ne {w : World} {a b : Nat} {c1 c2 : Array Value} {t1 t2 : TypeId} {f1 f2 : Nat × Nat} (h1 : w.heap[a]? = some (.cells c1 t1 f1)) (h2 : w.heap[b]? = some (.cells c2 t2 f2)) (hn : t1 ≠ t2) : a ≠ b := fun e => by
  subst e; rw [h1] at h2; injection h2 with h2; injection h2 with _ h2; exact hn h2
theorem Acc.own {α : Type} {enc : α → List Value} {k : Nat} {e : TypeId} {base : Nat} {w : World} {ao : Option Addr} {g cap : Nat} {xs : List α} (h : Acc enc k e base w ao g cap xs) (hb : base ≤ g) : ∃ cur : Array Value, w.heap[g]? = some (.cells cur e (0, 0)) := by
  rcases h.at_ with ⟨_, _, _, h1⟩ | ⟨_, _, cur, h3, _⟩
  · omega
  · exact ⟨cur, h3⟩
theorem Acc.neB {α : Type} {enc : α → List Value} {k : Nat} {e : TypeId} {base : Nat} {w : World} {ao : Option Addr} {g cap : Nat} {xs : List α} {b : Nat} {t : TypeId} {cs : List Value} (h : Acc enc k e base w ao g cap xs) (hb : Blk w b t cs) (hn : e ≠ t) (hg : base ≤ g) : g ≠ b := by
  obtain ⟨cur, h1⟩ := h.own hg
  exact cells_ne h1 hb hn
theorem Acc.neA {α β : Type} {enc : α → List Value} {enc' : β → List Value} {k k' : Nat} {e e' : TypeId} {base base' : Nat} {w : World} {ao ao' : Option Addr} {g cap g' cap' : Nat} {xs : List α} {ys : List β} (h : Acc enc k e base w ao g cap xs) (h' : Acc enc' k' e' base' w ao' g' cap' ys) (hn : e ≠ e') (hg : base ≤ g) (hg' : base' ≤ g') : g ≠ g' := by
  obtain ⟨_, h1⟩ := h.own hg
  obtain ⟨_, h2⟩ := h'.own hg'
  exact cells_ne h1 h2 hn
theorem Blk.got {w : World} {b off : Nat} {t : TypeId} {cs : List Value} {v : Value} (h : Blk w b t cs) (hv : w.cell? ⟨b, off, none⟩ = some v) : cs[off]? = some v := by
  unfold Blk at h
  simpa [World.cell?, h] using hv
theorem Acc.setRaw {α : Type} [Inhabited α] {enc : α → List Value} {k j o' : Nat} {e : TypeId} {base : Nat} {w w' : World} {ao : Option Addr} {g cap : Nat} {xs : List α} {vs cs : List Value} (x' : α) (hk : ∀ x, (enc x).length = k) (hw : Acc enc k e base w ao g cap xs) (hj : j < xs.length) (hl : o' + vs.length ≤ k)
    (hx' : enc x' = lay (enc (nth xs j)) o' vs) (hB : Blk w g e cs) (hB' : Blk w' g e (lay cs (j * k + o') vs)) : Acc enc k e base w' ao g cap (xs.set j x') := by
  have hwr := hw.wr hk
  obtain ⟨cur, hcur, hsz, hr⟩ := hwr.at_ (by omega)
  have hB0 : Blk w g e cur.toList := by simpa [Blk] using hcur
  have hcs : cs = cur.toList := by
    unfold Blk at hB hB0
    rw [hB] at hB0
    injection hB0 with h1
    injection h1 with h1
    have := congrArg Array.toList h1
    simpa using this
  subst hcs
  refine hw.ofWr hk (by omega) (ys := xs.set j x') ?_ (by rw [List.length_set]) fun c2 hc2 => ?_
  · exact wr_set hk hwr hj hB0 hB' rfl hl hx' rfl
  · rw [hcur] at hc2
    injection hc2 with hc2
    injection hc2 with hc2
    subst hc2
    exact ⟨(lay cur.toList (j * k + o') vs).toArray, hB', by rw [List.size_toArray, lay_length, Array.length_toList]⟩
theorem mem_set {α : Type} [Inhabited α] {xs : List α} {i : Nat} {y h : α} (hh : h ∈ xs.set i y) : h = y ∨ ∃ j, j < xs.length ∧ j ≠ i ∧ h = nth xs j := by
  obtain ⟨j, hj, rfl⟩ := List.mem_iff_getElem.1 hh
  rw [List.length_set] at hj
  by_cases e : j = i
  · left; subst e; simp
  · right; exact ⟨j, hj, e, by rw [List.getElem_set_ne (Ne.symm e), nth_eq hj]⟩
theorem nth_setN {α : Type} [Inhabited α] {l : List α} {k j : Nat} (h : j ≠ k) (s : α) : nth (l.set k s) j = nth l j := by
  unfold nth; rw [List.getD_eq_getElem?_getD, List.getElem?_set_ne (Ne.symm h), List.getD_eq_getElem?_getD]
theorem nth_insL {α : Type} [Inhabited α] {l : List α} {k j : Nat} (h : k ≤ l.length) (hj : j < k) (s : α) : nth (l.take k ++ s :: l.drop k) j = nth l j := by
  unfold nth
  rw [List.getD_eq_getElem?_getD, List.getElem?_append_left (by rw [List.length_take]; omega), List.getElem?_take, if_pos hj, List.getD_eq_getElem?_getD]
theorem nth_insR {α : Type} [Inhabited α] {l : List α} {k j : Nat} (h : k ≤ l.length) (hj : k < j) (s : α) : nth (l.take k ++ s :: l.drop k) j = nth l (j - 1) := by
  unfold nth
  rw [List.getD_eq_getElem?_getD, List.getElem?_append_right (by rw [List.length_take]; omega), List.length_take, Nat.min_eq_left h, show j - k = (j - 1 - k) + 1 by omega, List.getElem?_cons_succ, List.getElem?_drop, List.getD_eq_getElem?_getD, show k + (j - 1 - k) = j - 1 by omega]
/-- A state in memory. -/
structure SG where
  m : Int
  rs : List HR
  ah : Option Addr
  gh : Nat
  ch : Nat
  ld : List Crg
  al : Option Addr
  gl : Nat
  cl : Nat
  un : List Crg
  au : Option Addr
  gu : Nat
  cu : Nat
  wk : Int
def SG.cells (V : SG) : List Value := [.int .i64 V.m, .slice V.ah V.rs.length V.ch, .slice V.al V.ld.length V.cl, .slice V.au V.un.length V.cu, .int .i64 V.wk]
structure SeaM (base sb : Nat) (w : World) (V : SG) : Prop where
  sge : base ≤ sb
  blk : Blk w sb 146 V.cells
  hacc : Acc encHR 3 70 base w V.ah V.gh V.ch V.rs
  cacc : ∀ r ∈ V.rs, r.o = 0 ∧ Acc encCrg 2 72 base w r.ao r.g r.cp r.c
  lacc : Acc encCrg 2 72 base w V.al V.gl V.cl V.ld
  uacc : Acc encCrg 2 72 base w V.au V.gu V.cu V.un
  lu : base ≤ V.gl → V.gl ≠ V.gu
  lr : ∀ r ∈ V.rs, base ≤ r.g → r.g ≠ V.gl ∧ r.g ≠ V.gu
  rr : ∀ i j, i < j → j < V.rs.length → base ≤ (nth V.rs i).g → (nth V.rs i).g ≠ (nth V.rs j).g
section
variable {base sb : Nat} {w w' : World} {V : SG} {S : Nat → Prop}
theorem SeaM.ext (h : SeaM base sb w V) (u : Ext w w') : SeaM base sb w' V :=
  ⟨h.sge, h.blk.kx u, h.hacc.keep u (fun _ h => h), fun r hr => ⟨(h.cacc r hr).1, (h.cacc r hr).2.keep u (fun _ h => h)⟩, h.lacc.keep u (fun _ h => h), h.uacc.keep u (fun _ h => h), h.lu, h.lr, h.rr⟩
/-- A hull is another one. -/
theorem SeaM.setH (h : SeaM base sb w V) {k : Nat} (hk : k < V.rs.length) (q : HR) (u : Upd S w w') (hS : ∀ i, S i → i = V.gh ∨ (i = (nth V.rs k).g ∧ base ≤ i)) (ho : q.o = 0) (hh : Acc encHR 3 70 base w' V.ah V.gh V.ch (V.rs.set k q)) (hc : Acc encCrg 2 72 base w' q.ao q.g q.cp q.c)
    (hg : q.g = (nth V.rs k).g ∨ w.heap.size ≤ q.g) : SeaM base sb w' { V with rs := V.rs.set k q } := by
  have hbg : base ≤ V.gh := h.hacc.ge (by omega)
  have hck := (h.cacc _ (nth_mem hk)).2
  have no : ∀ i, i ≠ V.gh → (base ≤ (nth V.rs k).g → i ≠ (nth V.rs k).g) → ¬ S i := fun i h1 h2 hs => by
    rcases hS i hs with e | ⟨e, e2⟩
    · exact h1 e
    · exact h2 (by omega) e
  have cg : ∀ {ao : Option Addr} {g cp : Nat} {c : List Crg}, Acc encCrg 2 72 base w ao g cp c → base ≤ g → g ≠ V.gh := fun ha hb => ha.neA h.hacc (by decide) hb hbg
  have kg : base ≤ (nth V.rs k).g → q.g = (nth V.rs k).g ∨ w.heap.size ≤ q.g := fun _ => hg
  have lt : ∀ {ao : Option Addr} {g cp : Nat} {c : List Crg}, Acc encCrg 2 72 base w ao g cp c → g < w.heap.size := fun ha => ha.lt
  have hlk := h.lr _ (nth_mem hk)
  have rrs : ∀ j, j < V.rs.length → j ≠ k → base ≤ (nth V.rs j).g → (nth V.rs j).g ≠ (nth V.rs k).g := fun j hj hne hb => by
    rcases Nat.lt_or_gt_of_ne hne with q | q
    · exact h.rr j k q hk hb
    · intro e; exact h.rr k j q hj (by omega) e.symm
  refine ⟨h.sge, ?_, hh, fun r hr => ?_, h.lacc.keep u fun hb => no _ (cg h.lacc hb) fun hb2 e => (hlk hb2).1 e.symm, h.uacc.keep u fun hb => no _ (cg h.uacc hb) fun hb2 e => (hlk hb2).2 e.symm, h.lu, fun r hr hb => ?_, fun i j hij hj hb => ?_⟩
  · have e : ({ V with rs := V.rs.set k q } : SG).cells = V.cells := by simp [SG.cells]
    rw [e]
    exact h.blk.keep u (no _ (h.hacc.neB h.blk (by decide) hbg).symm fun hb => (hck.neB h.blk (by decide) hb).symm)
  · rcases mem_set hr with rfl | ⟨j, hj, hne, rfl⟩
    · exact ⟨ho, hc⟩
    · have hj2 := h.cacc _ (nth_mem hj)
      exact ⟨hj2.1, hj2.2.keep u fun hb => no _ (cg hj2.2 hb) fun _ => rrs j hj hne hb⟩
  · rcases mem_set hr with rfl | ⟨j, hj, hne, rfl⟩
    · have l1 := lt h.lacc
      have l2 := lt h.uacc
      show r.g ≠ V.gl ∧ r.g ≠ V.gu
      rcases hg with e | e
      · have := hlk (by omega); rw [e]; exact this
      · exact ⟨by omega, by omega⟩
    · exact h.lr _ (nth_mem hj) hb
  · have hj0 : j < (V.rs.set k q).length := hj
    rw [List.length_set] at hj0
    clear hj
    have hj := hj0
    have hb2 : base ≤ (nth (V.rs.set k q) i).g := hb
    clear hb
    show (nth (V.rs.set k q) i).g ≠ (nth (V.rs.set k q) j).g
    by_cases e1 : i = k
    · subst e1
      rw [nth_setE (by omega)] at hb2 ⊢
      rw [nth_setN (by omega)]
      have := lt (h.cacc _ (nth_mem hj)).2
      rcases hg with e | e
      · rw [e]; exact h.rr _ _ hij hj (by omega)
      · omega
    · rw [nth_setN e1] at hb2 ⊢
      by_cases e2 : j = k
      · subst e2
        rw [nth_setE hj]
        have := lt (h.cacc _ (nth_mem (show i < V.rs.length by omega))).2
        rcases hg with e | e
        · rw [e]; exact h.rr _ _ hij hj hb2
        · omega
      · rw [nth_setN e2]; exact h.rr _ _ hij hj hb2
/-- What was loaded is another list. -/
theorem SeaM.setL (h : SeaM base sb w V) (u : Upd S w w') (hS : ∀ i, S i → i = sb ∨ (i = V.gl ∧ base ≤ i)) {al : Option Addr} {gl cl : Nat} {ld : List Crg} (hb : Blk w' sb 146 { V with ld := ld, al := al, gl := gl, cl := cl }.cells) (ha : Acc encCrg 2 72 base w' al gl cl ld) (hg : gl = V.gl ∨ w.heap.size ≤ gl) :
    SeaM base sb w' { V with ld := ld, al := al, gl := gl, cl := cl } := by
  have no : ∀ i, i ≠ sb → (base ≤ V.gl → i ≠ V.gl) → ¬ S i := fun i h1 h2 hs => by
    rcases hS i hs with e | ⟨e, e2⟩
    · exact h1 e
    · exact h2 (by omega) e
  refine ⟨h.sge, hb, h.hacc.keep u fun hq => no _ (h.hacc.neB h.blk (by decide) hq) fun hq2 => h.hacc.neA h.lacc (by decide) hq hq2, fun r hr => ⟨(h.cacc r hr).1, (h.cacc r hr).2.keep u fun hq => no _ ((h.cacc r hr).2.neB h.blk (by decide) hq) fun _ => (h.lr r hr hq).1⟩, ha,
    h.uacc.keep u fun hq => no _ (h.uacc.neB h.blk (by decide) hq) fun hq2 e => h.lu hq2 e.symm, fun hq => ?_, fun r hr hq => ?_, h.rr⟩
  · have hq : base ≤ gl := hq
    show gl ≠ V.gu
    have := h.uacc.lt
    rcases hg with e | e
    · rw [e]; exact h.lu (by omega)
    · omega
  · have := (h.cacc r hr).2.lt
    refine ⟨?_, (h.lr r hr hq).2⟩
    show r.g ≠ gl
    rcases hg with e | e
    · rw [e]; exact (h.lr r hr hq).1
    · omega
/-- What was unloaded is another list. -/
theorem SeaM.setU (h : SeaM base sb w V) (u : Upd S w w') (hS : ∀ i, S i → i = sb ∨ (i = V.gu ∧ base ≤ i)) {au : Option Addr} {gu cu : Nat} {un : List Crg} (hb : Blk w' sb 146 { V with un := un, au := au, gu := gu, cu := cu }.cells) (ha : Acc encCrg 2 72 base w' au gu cu un) (hg : gu = V.gu ∨ w.heap.size ≤ gu) :
    SeaM base sb w' { V with un := un, au := au, gu := gu, cu := cu } := by
  have no : ∀ i, i ≠ sb → (base ≤ V.gu → i ≠ V.gu) → ¬ S i := fun i h1 h2 hs => by
    rcases hS i hs with e | ⟨e, e2⟩
    · exact h1 e
    · exact h2 (by omega) e
  refine ⟨h.sge, hb, h.hacc.keep u fun hq => no _ (h.hacc.neB h.blk (by decide) hq) fun hq2 => h.hacc.neA h.uacc (by decide) hq hq2, fun r hr => ⟨(h.cacc r hr).1, (h.cacc r hr).2.keep u fun hq => no _ ((h.cacc r hr).2.neB h.blk (by decide) hq) fun _ => (h.lr r hr hq).2⟩,
    h.lacc.keep u fun hq => no _ (h.lacc.neB h.blk (by decide) hq) fun _ => h.lu hq, ha, fun hq => ?_, fun r hr hq => ?_, h.rr⟩
  · have hq : base ≤ V.gl := hq
    show V.gl ≠ gu
    have := h.lacc.lt
    rcases hg with e | e
    · rw [e]; exact h.lu hq
    · omega
  · have := (h.cacc r hr).2.lt
    refine ⟨(h.lr r hr hq).1, ?_⟩
    show r.g ≠ gu
    rcases hg with e | e
    · rw [e]; exact (h.lr r hr hq).2
    · omega
/-- Numbers of the state are other ones. -/
theorem SeaM.setB (h : SeaM base sb w V) (u : Upd (· = sb) w w') {m wk : Int} (hb : Blk w' sb 146 { V with m := m, wk := wk }.cells) : SeaM base sb w' { V with m := m, wk := wk } :=
  ⟨h.sge, hb, h.hacc.keep u fun hq => h.hacc.neB h.blk (by decide) hq, fun r hr => ⟨(h.cacc r hr).1, (h.cacc r hr).2.keep u fun hq => (h.cacc r hr).2.neB h.blk (by decide) hq⟩, h.lacc.keep u fun hq => h.lacc.neB h.blk (by decide) hq, h.uacc.keep u fun hq => h.uacc.neB h.blk (by decide) hq, h.lu, h.lr, h.rr⟩
/-- A hull more. -/
theorem SeaM.ins (h : SeaM base sb w V) {k : Nat} (hk : k ≤ V.rs.length) (hb0 : 0 < base) (hbs : base ≤ w'.heap.size) (n p : Int) (u : Upd S w w') (hS : ∀ i, S i → i = sb ∨ (i = V.gh ∧ base ≤ i)) {ah : Option Addr} {gh ch : Nat} (hb : Blk w' sb 146 { V with rs := V.rs.take k ++ (⟨n, p, none, 0, 0, 0, []⟩ : HR) :: V.rs.drop k, ah := ah, gh := gh, ch := ch }.cells)
    (ha : Acc encHR 3 70 base w' ah gh ch (V.rs.take k ++ (⟨n, p, none, 0, 0, 0, []⟩ : HR) :: V.rs.drop k)) : SeaM base sb w' { V with rs := V.rs.take k ++ (⟨n, p, none, 0, 0, 0, []⟩ : HR) :: V.rs.drop k, ah := ah, gh := gh, ch := ch } := by
  have no : ∀ i, i ≠ sb → (base ≤ V.gh → i ≠ V.gh) → ¬ S i := fun i h1 h2 hs => by
    rcases hS i hs with e | ⟨e, e2⟩
    · exact h1 e
    · exact h2 (by omega) e
  have mem : ∀ r, r ∈ V.rs.take k ++ (⟨n, p, none, 0, 0, 0, []⟩ : HR) :: V.rs.drop k → r = ⟨n, p, none, 0, 0, 0, []⟩ ∨ r ∈ V.rs := fun r hr => by
    rcases List.mem_append.1 hr with q | q
    · exact .inr (List.mem_of_mem_take q)
    · rcases List.mem_cons.1 q with q | q
      · exact .inl q
      · exact .inr (List.mem_of_mem_drop q)
  have hl := (ins_nth hk (⟨n, p, none, 0, 0, 0, []⟩ : HR)).2
  have he := (ins_nth hk (⟨n, p, none, 0, 0, 0, []⟩ : HR)).1
  refine ⟨h.sge, hb, ha, fun r hr => ?_, h.lacc.keep u fun hq => no _ (h.lacc.neB h.blk (by decide) hq) fun hq2 => h.lacc.neA h.hacc (by decide) hq hq2, h.uacc.keep u fun hq => no _ (h.uacc.neB h.blk (by decide) hq) fun hq2 => h.uacc.neA h.hacc (by decide) hq hq2, h.lu, fun r hr hq => ?_, fun i j hij hj hq => ?_⟩
  · rcases mem r hr with rfl | hr
    · exact ⟨rfl, Acc.nil _ _ _ _ _ hb0 hbs⟩
    · have h2 := h.cacc r hr
      exact ⟨h2.1, h2.2.keep u fun hq => no _ (h2.2.neB h.blk (by decide) hq) fun hq2 => h2.2.neA h.hacc (by decide) hq hq2⟩
  · rcases mem r hr with rfl | hr
    · exact absurd hq (by show ¬ base ≤ 0; omega)
    · exact h.lr r hr hq
  · have hj : j < (V.rs.take k ++ (⟨n, p, none, 0, 0, 0, []⟩ : HR) :: V.rs.drop k).length := hj
    rw [hl] at hj
    have hq : base ≤ (nth (V.rs.take k ++ (⟨n, p, none, 0, 0, 0, []⟩ : HR) :: V.rs.drop k) i).g := hq
    show (nth (V.rs.take k ++ (⟨n, p, none, 0, 0, 0, []⟩ : HR) :: V.rs.drop k) i).g ≠ (nth (V.rs.take k ++ (⟨n, p, none, 0, 0, 0, []⟩ : HR) :: V.rs.drop k) j).g
    rcases Nat.lt_trichotomy i k with e | e | e
    · rw [nth_insL hk e] at hq ⊢
      rcases Nat.lt_trichotomy j k with q | q | q
      · rw [nth_insL hk q]; exact h.rr i j hij (by omega) hq
      · subst q; rw [he]; show _ ≠ 0; omega
      · rw [nth_insR hk q]; exact h.rr i (j - 1) (by omega) (by omega) hq
    · subst e; rw [he] at hq; exact absurd hq (by show ¬ base ≤ 0; omega)
    · rw [nth_insR hk e] at hq ⊢
      rw [nth_insR hk (by omega)]
      exact h.rr (i - 1) (j - 1) (by omega) (by omega) hq
end
/-- All of a state's blocks lie below m. -/
def SeaL (m : Nat) (V : SG) : Prop := V.gh < m ∧ V.gl < m ∧ V.gu < m ∧ ∀ r ∈ V.rs, r.g < m
theorem SeaM.lts {base sb : Nat} {w : World} {V : SG} (h : SeaM base sb w V) : SeaL w.heap.size V := ⟨h.hacc.lt, h.lacc.lt, h.uacc.lt, fun r hr => (h.cacc r hr).2.lt⟩

end Go.Proofs.YtagmkfbbhfaceaaGreatDoor
