/-
  Part 14 of the proof: contracts and plain laws. Conditions: none.
-/
import Derived.Shelf.Strings.SplitCore
import Derived.Shelf.Strings.Search3
import Derived.Shelf.Strings.Count
import Derived.Shelf.Strings.Prefix
import Derived.Shelf.Strconv.AtoiAll
import Derived.Ground.NamesProg
import Derived.Test.YtjdcpnaocjddoaaGreatDoorProg
import Derived.Test.YtjdcpnaocjddoaaGreatDoorGK13
namespace Go.Proofs.YtjdcpnaocjddoaaGreatDoor
open Go Go.RowKit Go.Proofs.Tryz
/-- seals, one behind the other -/
def sealsG : List Int → List UInt8
  | [] => []
  | n :: r => Lib.decDigits n.toNat ++ r.flatMap fun m => 44 :: Lib.decDigits m.toNat
theorem sealsG_snoc {l : List Int} {n : Int} : sealsG (l ++ [n]) = if l.length = 0 then Lib.decDigits n.toNat else sealsG l ++ [44] ++ Lib.decDigits n.toNat := by
  cases l with
  | nil => show Lib.decDigits n.toNat ++ [] = _; rw [List.append_nil]; rfl
  | cons a l =>
    rw [if_neg (by simp)]
    show Lib.decDigits a.toNat ++ (l ++ [n]).flatMap _ = _
    rw [List.flatMap_append]
    simp [sealsG]
/-- a bill's text ahead of its seals -/
def hdB (x : Bil) : List UInt8 := ((((((((Lib.decDigits x.n.toNat ++ [32]) ++ Lib.decDigits x.c.toNat) ++ [32]) ++ Lib.decDigits x.t.toNat) ++ [32]) ++ Lib.decDigits x.f.toNat) ++ [62]) ++ Lib.decDigits x.o.toNat) ++ [32]
def bilP (x : Bil) : List UInt8 := hdB x ++ (if x.s.length = 0 then [45] else sealsG x.s)
theorem join_seals : ∀ {l : List Int}, (∀ n ∈ l, 0 ≤ n ∧ n < 1000000) → l ≠ [] → Lib.join (l.map Lib.itoa) [44] = sealsG l
  | [], _, h => absurd rfl h
  | n :: r, hl, _ => by
    rw [List.map_cons, Lib.join_cons]
    show _ ++ _ = Lib.decDigits n.toNat ++ _
    rw [itoa_dec (hl n (List.mem_cons_self ..)).1]
    congr 1
    have hr : ∀ m ∈ r, 0 ≤ m := fun m hm => (hl m (List.mem_cons_of_mem _ hm)).1
    clear hl
    unfold Lib.joinTail
    induction r with
    | nil => rfl
    | cons m r ih =>
      rw [List.map_cons, List.map_cons, List.flatten_cons, List.flatMap_cons, ih (by simp) (fun k hk => hr k (List.mem_cons_of_mem _ hk)), itoa_dec (hr m (List.mem_cons_self ..))]; rfl
theorem bilP_eq {x : Bil} (h : okBill x = true) : Lib.join (wrdB x) [32] = bilP x := by
  obtain ⟨h1, h2, h3, h4, ⟨h5, h6⟩, _, _⟩ := okBill_iff h
  have hs := sealG_rng (by decide) h1
  have e : Lib.join (sealsP x.s) [44] = if x.s.length = 0 then [45] else sealsG x.s := by
    unfold sealsP
    by_cases q : x.s.length = 0
    · rw [if_pos q, if_pos q, Lib.join_one]
    · rw [if_neg q, if_neg q, join_seals hs (fun e => q (by rw [e]; rfl))]
  unfold wrdB bilP hdB
  rw [join_two, join_two, join_two, join_two, Lib.join_one, e, itoa_dec (show 0 ≤ x.n by omega), itoa_dec (show 0 ≤ x.c by omega), itoa_dec (show 0 ≤ x.t by omega), itoa_dec h5.1, itoa_dec h6.1]
  simp only [List.append_assoc]
theorem billP_bil {x : Bil} (h : okBill x = true) : billP x = sealP (bilP x ++ [32]) := by
  rw [← bilP_eq h]; rfl
theorem bilP_nil {x : Bil} (h : x.s.length = 0) (i : Nat) : hdB x ++ sealsG (x.s.take i) ++ [45] = bilP x := by
  have e := List.eq_nil_of_length_eq_zero h
  unfold bilP
  rw [if_pos h, e, List.take_nil, show sealsG [] = [] from rfl, List.append_nil]
theorem bilP_cons {x : Bil} (h : ¬ x.s.length = 0) {i : Nat} (hi : x.s.length ≤ i) : hdB x ++ sealsG (x.s.take i) = bilP x := by
  unfold bilP
  rw [if_neg h, List.take_of_length_le hi]
theorem sealsG_next {x : Bil} {i : Nat} (hi : i < x.s.length) (h0 : 0 < i) : hdB x ++ sealsG (x.s.take i) ++ [44] ++ Lib.decDigits (nth x.s i).toNat = hdB x ++ sealsG (x.s.take (i + 1)) := by
  rw [take_nth hi, sealsG_snoc, if_neg (by rw [List.length_take]; omega)]
  simp only [List.append_assoc]
theorem sealsG_first {x : Bil} {i : Nat} (hi : i < x.s.length) (h0 : ¬ 0 < i) : hdB x ++ sealsG (x.s.take i) ++ Lib.decDigits (nth x.s i).toNat = hdB x ++ sealsG (x.s.take (i + 1)) := by
  have e : i = 0 := by omega
  subst e
  rw [take_nth hi, sealsG_snoc, if_pos (by rw [List.length_take]; omega)]
  show hdB x ++ [] ++ _ = _
  rw [List.append_nil]
theorem decD_l6 {n : Int} (h : 0 ≤ n ∧ n < 1000000) : (Lib.decDigits n.toNat).length ≤ 6 := decD_len 5 n.toNat (by omega)
theorem hdB_len {x : Bil} (h : okBill x = true) : (hdB x).length ≤ 35 := by
  obtain ⟨_, h2, h3, h4, ⟨h5, h6⟩, _, _⟩ := okBill_iff h
  have a1 := decD_l6 (n := x.n) (by omega)
  have a2 := decD_l6 (n := x.c) (by omega)
  have a3 := decD_l6 (n := x.t) (by omega)
  have a4 := decD_l6 (n := x.f) (by omega)
  have a5 := decD_l6 (n := x.o) (by omega)
  unfold hdB
  simp only [List.length_append, List.length_cons, List.length_nil]
  omega
theorem sealsG_len : ∀ {l : List Int}, (∀ n ∈ l, 0 ≤ n ∧ n ≤ 99999) → (sealsG l).length ≤ 7 * l.length
  | [], _ => Nat.le_refl _
  | n :: r, hl => by
    have a1 := decD_l6 (n := n) (by have := hl n (List.mem_cons_self ..); omega)
    have hr : ∀ m ∈ r, 0 ≤ m ∧ m ≤ 99999 := fun m hm => hl m (List.mem_cons_of_mem _ hm)
    have h9 : (r.flatMap fun m => 44 :: Lib.decDigits m.toNat).length ≤ 7 * r.length := by
      clear hl a1
      induction r with
      | nil => exact Nat.le_refl _
      | cons m r ih =>
        have a2 := decD_l6 (n := m) (by have := hr m (List.mem_cons_self ..); omega)
        have a3 := ih (fun k hk => hr k (List.mem_cons_of_mem _ hk))
        rw [List.flatMap_cons, List.length_append, List.length_cons, List.length_cons]; omega
    show (Lib.decDigits n.toNat ++ _).length ≤ _
    rw [List.length_append, List.length_cons]; omega
set_option maxHeartbeats 4000000 in
theorem rText_c (x : Bil) (w0 : World) (hs : Sl encI 1 w0 x.ao x.g x.ob x.s) (hok : okBill x = true) :
    CallsV Tryz.prog 82 [.agg #[.int .i64 x.n, .int .i64 x.c, .int .i64 x.t, .int .i64 x.f, .int .i64 x.o, .slice x.ao x.s.length x.cp]] w0 (fun v w' => v = .string (strB (billP x)) ∧ Ext w0 w') := by
 have hb9 := okBill_iff hok
 obtain ⟨hb1, hb2, hb3, hb4, ⟨hb5, hb6⟩, _, hb7⟩ := okBill_iff hok
 have hsm := sealG_mem (by decide) hb1
 have hbl := (billP_len hok).2
 rw [show [Lib.itoa x.n, Lib.itoa x.c, Lib.itoa x.t, Lib.itoa x.f ++ [62] ++ Lib.itoa x.o, Lib.join (sealsP x.s) [44]] = wrdB x from rfl, bilP_eq hok] at hbl
 have hhl := hdB_len hok
 have hdn := decD_l6 (n := x.n) (by omega)
 have hdc := decD_l6 (n := x.c) (by omega)
 have hdt := decD_l6 (n := x.t) (by omega)
 have hdf := decD_l6 (n := x.f) (by omega)
 have hdo := decD_l6 (n := x.o) (by omega)
 refine f_n func82 ?_
 refine go ?_
 refine x_b fun bk2 w3 ebk2 sbk2 B4 u5 => ?_
 refine go ?_
 refine c_drawnM follows (fun _ => False) (OTl [0, 2, 8, 10, 18, 20, 28, 30, 38, 40, 5, 6, 13, 14, 16, 23, 24, 26, 33, 34, 36, 43, 44, 46, 48]) (by kernel_rfl) fun w8 u9 => ?_
 have zu9 := u9.size
 refine go ?_
 refine x_c func126 rfl rfl (by have h9 := number_c x.n.toNat w8 (by omega); rw [Int.toNat_of_nonneg (by omega)] at h9; exact h9) ?_
 rintro _ w12 ⟨rfl, u13⟩ zu13
 refine go ?_
 refine y_bo (Bo.addS (by simp only [List.length_cons, List.length_nil]; omega)) rfl rfl rfl rfl ?_
 refine go ?_
 refine x_c func126 rfl rfl (by have h9 := number_c x.c.toNat w12 (by omega); rw [Int.toNat_of_nonneg (by omega)] at h9; exact h9) ?_
 rintro _ w17 ⟨rfl, u18⟩ zu18
 refine go ?_
 refine y_bo (Bo.addS (by simp only [List.length_append, List.length_cons, List.length_nil]; omega)) rfl rfl rfl rfl (y_bo (Bo.addS (by simp only [List.length_append, List.length_cons, List.length_nil]; omega)) rfl rfl rfl rfl ?_)
 refine go ?_
 refine x_c func126 rfl rfl (by have h9 := number_c x.t.toNat w17 (by omega); rw [Int.toNat_of_nonneg (by omega)] at h9; exact h9) ?_
 rintro _ w22 ⟨rfl, u23⟩ zu23
 refine go ?_
 refine y_bo (Bo.addS (by simp only [List.length_append, List.length_cons, List.length_nil]; omega)) rfl rfl rfl rfl (y_bo (Bo.addS (by simp only [List.length_append, List.length_cons, List.length_nil]; omega)) rfl rfl rfl rfl ?_)
 refine go ?_
 refine x_c func126 rfl rfl (by have h9 := number_c x.f.toNat w22 (by omega); rw [Int.toNat_of_nonneg (by omega)] at h9; exact h9) ?_
 rintro _ w27 ⟨rfl, u28⟩ zu28
 refine go ?_
 refine y_bo (Bo.addS (by simp only [List.length_append, List.length_cons, List.length_nil]; omega)) rfl rfl rfl rfl (y_bo (Bo.addS (by simp only [List.length_append, List.length_cons, List.length_nil]; omega)) rfl rfl rfl rfl ?_)
 refine go ?_
 refine x_c func126 rfl rfl (by have h9 := number_c x.o.toNat w27 (by omega); rw [Int.toNat_of_nonneg (by omega)] at h9; exact h9) ?_
 rintro _ w32 ⟨rfl, u33⟩ zu33
 refine go ?_
 refine y_bo (Bo.addS (by simp only [List.length_append, List.length_cons, List.length_nil]; omega)) rfl rfl rfl rfl (y_bo (Bo.addS (by simp only [List.length_append, List.length_cons, List.length_nil]; omega)) rfl rfl rfl rfl (y_same 28 (v := .string (strB (hdB x))) rfl rfl ?_))
 refine go ?_
 refine x_l1 (fun _ => False) [1] (fun (i : Nat) => [(3, .string (strB (hdB x ++ sealsG (x.s.take i)))), (4, .int .i64 (i : Int))]) (fun i w => (i ≤ x.s.length)) (fun i => x.s.length - i) 0 (Nat.zero_le _) ?_ (h0 := by exact ⟨(congrArg (fun z => some (Value.string (strB z))) ((List.append_nil _).symm)), rfl, rfl, trivial⟩)
 rintro i w39 hi u40 zu40 K38 hK38
 have E41 := Sc.mk (((((((((Upd.refl (fun _ => False) w0).nx u5).nx u9).nx u13).nx u18).nx u23).nx u28).nx u33).nx u40)
 have hsg := sealsG_len (l := x.s.take i) (fun n hn => hsm n (List.mem_of_mem_take hn))
 rw [List.length_take] at hsg
 refine go ?_
 refine q_p (fun g33 => ?_) fun g33 => ?_
 ·
  have hxi := hsm _ (nth_mem (xs := x.s) (i := i) (by omega))
  have hxd := decD_l6 (n := nth x.s i) (by omega)
  refine go ?_
  refine q_p (fun g37 => ?_) fun g37 => ?_
  ·
   have hsx := sealsG_next (x := x) (i := i) (by omega) (by omega)
   refine go ?_
   refine t_bo (Bo.addS (by simp only [List.length_append, List.length_cons, List.length_nil]; omega)) rfl rfl rfl rfl ?_
   refine go ?_
   refine g_i i (hs.keep E41.u (fun _ h => h)) (fun _ => ?_)
   refine go ?_
   refine x_c func126 rfl rfl (by have h9 := number_c (nth x.s i).toNat w39 (by omega); rw [Int.toNat_of_nonneg (by omega)] at h9; exact h9) ?_
   rintro _ w49 ⟨rfl, u50⟩ zu50
   refine t_bo (Bo.addS (by simp only [List.length_append, List.length_cons, List.length_nil]; omega)) rfl rfl rfl rfl ?_
   refine go ?_
   exact hK38 (i + 1) (by omega) (hs := by exact ⟨(congrArg (fun z => some (Value.string (strB z))) hsx), rfl, rfl, trivial⟩)
  have hsx := sealsG_first (x := x) (i := i) (by omega) (by omega)
  refine go ?_
  refine g_i i (hs.keep E41.u (fun _ h => h)) (fun _ => ?_)
  refine go ?_
  refine x_c func126 rfl rfl (by have h9 := number_c (nth x.s i).toNat w39 (by omega); rw [Int.toNat_of_nonneg (by omega)] at h9; exact h9) ?_
  rintro _ w55 ⟨rfl, u56⟩ zu56
  refine t_bo (Bo.addS (by simp only [List.length_append]; omega)) rfl rfl rfl rfl ?_
  refine go ?_
  exact hK38 (i + 1) (by omega) (hs := by exact ⟨(congrArg (fun z => some (Value.string (strB z))) hsx), rfl, rfl, trivial⟩)
 refine go ?_
 refine q_p (fun g51 => ?_) fun g51 => ?_
 ·
  refine go ?_
  refine t_bo (Bo.addS (by simp only [List.length_append, List.length_cons, List.length_nil]; omega)) rfl rfl rfl rfl (t_same 53 (v := .string (strB (bilP x))) rfl (congrArg (fun z => Value.string (strB z)) (bilP_nil (by omega) _)) ?_)
  refine go ?_
  refine x_c func127 rfl rfl (line_c (bilP x) _ (by omega)) ?_
  rintro _ w63 ⟨rfl, u64⟩ zu64
  refine go ?_
  refine f_1 results82 ?_
  exact ⟨by rw [billP_bil hok], u_d⟩
 refine c_same 3 (v := .string (strB (bilP x))) rfl (congrArg (fun z => Value.string (strB z)) (bilP_cons (by omega) (by omega))) ?_
 refine go ?_
 refine x_c func127 rfl rfl (line_c (bilP x) _ (by omega)) ?_
 rintro _ w69 ⟨rfl, u70⟩ zu70
 refine go ?_
 refine f_1 results82 ?_
 exact ⟨by rw [billP_bil hok], u_d⟩

set_option maxHeartbeats 4000000 in
theorem rWrite_c (l : List Bil) (al : Option Addr) (bl ol cl : Nat) (w0 : World) (hl : Sl encBil 6 w0 al bl ol l) (hss : ∀ x ∈ l, Sl encI 1 w0 x.ao x.g x.ob x.s ∧ x.s.length ≤ 1000000) (hll : l.length ≤ 1000000000) :
    CallsV Tryz.prog 40 [.slice al l.length cl] w0 (fun v w' => v = .tuple #[.string (strB (textP l).1), .int .i64 (textP l).2] ∧ Ext w0 w') := by
 refine f_n func40 ?_
 refine go ?_
 refine q_p (fun g8 => ?_) fun g8 => ?_
 ·
  refine go ?_
  refine f_ret2 (v1 := .string (strB ([]))) (v2 := .int .i64 5) results40 rfl rfl ?_
  exact ⟨by unfold textP; rw [if_pos (by omega)], u_d⟩
 refine go ?_
 refine x_l2 (fun _ => False) [0] (fun (i : Nat) (m : Int) => [(4, .string (strB ((l.take i).flatMap billP))), (5, .int .i64 (i : Int))]) (fun i m w => (i ≤ l.length) ∧ (chkB 0 l = chkB m (l.drop i)) ∧ (m = if i = 0 then 0 else (nth l (i - 1)).n) ∧ (((l.take i).flatMap billP).length ≤ 1109 * i)) (fun i m => l.length - i) 0 0 ⟨(Nat.zero_le _), rfl, rfl, (Nat.zero_le _)⟩ ?_
 rintro i m w9 ⟨hi, hc, hm, hln⟩ u10 zu10 K8 hK8
 have E11 := Sc.mk ((Upd.refl (fun _ => False) w0).nx u10)
 refine go ?_
 refine q_p (fun g12 => ?_) fun g12 => ?_
 ·
  refine go ?_
  refine g_i i (hl.keep E11.u (fun _ h => h)) (fun _ => ?_)
  refine go ?_
  refine x_c func81 rfl rfl (rBill_c (nth l i) _ ((hss _ (nth_mem (show i < l.length by omega))).1.keep E11.u (fun _ h => h)) (hss _ (nth_mem (show i < l.length by omega))).2) ?_
  rintro _ w19 ⟨rfl, u20⟩ zu20
  have E22 := Sc.mk (E11.u.nx u20)
  refine go ?_
  refine q_b (fun g20 => ?_) fun g20 => ?_
  ·
   have hx : okBill (nth l i) = false := by simpa using g20
   refine go ?_
   refine f_ret2 (v1 := .string (strB ([]))) (v2 := .int .i64 2) results40 rfl rfl ?_
   have h200 : ¬ 200 < l.length := by omega
   have he : chkB 0 l = 2 := by rw [hc, drop_nth (by omega)]; unfold chkB; rw [if_neg (by rw [hx]; decide)]
   exact ⟨by unfold textP; rw [if_neg h200, he, if_neg (by decide)], u_d⟩
  have hx : okBill (nth l i) = true := by simpa using g20
  have hx9 := okBill_iff hx
  have hpl := billP_le hx
  have hm0 : i = 0 → m = 0 := fun e => by rw [hm, if_pos e]
  have hm1 : ¬ i = 0 → m = (nth l (i - 1)).n := fun e => by rw [hm, if_neg e]
  iterate 3 refine st1 ?_
  refine x_k1 (fun _ => False) [0, 4, 5] (fun (z9 : Bool) => [(36, .bool z9)]) (fun z9 w => (z9 = decide (¬ m < (nth l i).n))) (fun K29 hK29 => ?_) ?_
  ·
   refine c_drawnM follows (fun _ => False) (OTl [0, 2, 4, 6, 8, 10, 12, 14, 16, 18, 20, 22, 24, 26, 28, 30]) (by kernel_rfl) fun w32 u33 => ?_
   have zu33 := u33.size
   have E34 := Sc.mk (E22.u.nx u33)
   refine go ?_
   refine y_splitp 23 rfl (fun g23 => ?_) (fun g23 => ?_)
   ·
    refine go ?_
    refine y_i i (hl.keep E34.u (fun _ h => h)) (fun _ => ?_)
    refine go ?_
    refine y_i (i - 1) (hl.keep E34.u (fun _ h => h)) (fun _ => ?_)
    refine go ?_
    exact hK29 (decide ((nth l i).n ≤ (nth l (i - 1)).n)) (by first | exact (decide_eq_false (by omega)).symm | exact (decide_eq_true (by omega)).symm | exact decide_eq_decide.2 (by omega))
   refine go ?_
   exact hK29 false (by first | exact (decide_eq_false (by omega)).symm | exact (decide_eq_true (by omega)).symm | exact decide_eq_decide.2 (by omega))
  rintro z9 w30 hz9 u31 zu31
  have E37 := Sc.mk (E22.u.nx u31)
  refine q_b (fun g36 => ?_) fun g36 => ?_
  ·
   have hzb : (¬ m < (nth l i).n) := by rw [hz9] at g36; exact of_decide_eq_true g36
   refine go ?_
   refine f_ret2 (v1 := .string (strB ([]))) (v2 := .int .i64 6) results40 rfl rfl ?_
   have h200 : ¬ 200 < l.length := by omega
   have he : chkB 0 l = 6 := by rw [hc, drop_nth (by omega)]; unfold chkB; rw [if_pos hx, if_neg hzb]
   exact ⟨by unfold textP; rw [if_neg h200, he, if_neg (by decide)], u_d⟩
  have hzb : ¬ (¬ m < (nth l i).n) := by rw [hz9] at g36; exact of_decide_eq_false g36
  refine go ?_
  refine g_i i (hl.keep E37.u (fun _ h => h)) (fun _ => ?_)
  refine go ?_
  refine x_c func82 rfl rfl (rText_c (nth l i) _ ((hss _ (nth_mem (show i < l.length by omega))).1.keep E37.u (fun _ h => h)) hx) ?_
  rintro _ w41 ⟨rfl, u42⟩ zu42
  refine t_bo (Bo.addS (by omega)) rfl rfl rfl rfl ?_
  refine go ?_
  exact hK8 (i + 1) ((nth l i).n) ⟨(by omega), (by rw [hc, drop_nth (by omega), chkB_ok hx (Decidable.not_not.1 hzb)]), (by rw [if_neg (by omega), Nat.add_sub_cancel]), (by rw [take_nth (by omega), List.flatMap_append, show [(nth l i)].flatMap billP = billP (nth l i) by simp, List.length_append]; omega)⟩ (hs := by exact ⟨(congrArg (fun z => some (Value.string (strB z))) (by rw [take_nth (by omega), List.flatMap_append, show [(nth l i)].flatMap billP = billP (nth l i) by simp])), rfl, rfl, trivial⟩)
 refine go ?_
 refine f_ret2 (v1 := .string (strB ((l.take i).flatMap billP))) (v2 := .int .i64 0) results40 rfl rfl ?_
 have h200 : ¬ 200 < l.length := by omega
 have hil : l.take i = l := List.take_of_length_le (by omega)
 have he : chkB 0 l = 0 := by rw [hc, List.drop_of_length_le (by omega)]; rfl
 exact ⟨by unfold textP; rw [if_neg h200, he, if_pos rfl, hil], u_d⟩

end Go.Proofs.YtjdcpnaocjddoaaGreatDoor
namespace Go.Proofs.YtjdcpnaocjddoaaGreatDoor
open Go Go.RowKit Go.Proofs.Tryz
set_option maxHeartbeats 4000000 in
theorem lines_c (s : List UInt8) (w0 : World) (hsl : s.length ≤ 1000000) (hpos : 0 < w0.heap.size) :
    CallsV Tryz.prog 83 [.string (strB s)] w0 (fun v w' => (∃ a9 g9 c9, v = .tuple #[.slice a9 (List.length (linesR s).1) c9, .int .i64 (linesR s).2] ∧ Acc encStr 1 9 w0.heap.size w' a9 g9 c9 (linesR s).1) ∧ Ext w0 w') := by
 refine f_n func83 ?_
 refine go ?_
 refine t_lenS underlying9 rfl rfl rfl rfl ?_
 refine go ?_
 refine q_p (fun g10 => ?_) fun g10 => ?_
 ·
  refine go ?_
  refine f_ret2 (v1 := .slice none 0 0) (v2 := .int .i64 5) results83 rfl rfl ?_
  have he : linesR s = ([], 5) := by unfold linesR; rw [if_pos (by omega)]
  exact ⟨⟨none, 0, 0, by rw [he]; rfl, by rw [he]; exact (Acc.nil _ _ _ _ _ hpos (by omega))⟩, u_d⟩
 iterate 3 refine st1 ?_
 refine x_k1 (fun _ => False) [0] (fun (z9 : Bool) => [(20, .bool z9)]) (fun z9 w => (z9 = decide (s ≠ [] ∧ nth s (s.length - 1) ≠ 10))) (fun K10 hK10 => ?_) ?_
 ·
  refine go ?_
  refine t_bo (Bo.neS s ([])) rfl rfl rfl rfl ?_
  refine go ?_
  refine t_splitp 13 rfl (fun g13 => ?_) (fun g13 => ?_)
  ·
   refine go ?_
   refine t_lenS underlying9 rfl rfl rfl rfl ?_
   refine go ?_
   refine t_idxS (s.length - 1) underlying9 rfl rfl rfl rfl (by have h9 := List.length_pos_iff.2 (by assumption : s ≠ []); omega) (by have h9 := List.length_pos_iff.2 (by assumption : s ≠ []); omega) ?_
   refine go ?_
   exact hK10 (decide (((nth s (s.length - 1)).toNat : Int) ≠ 10)) (by first | exact decide_eq_decide.2 ⟨fun h => ⟨by assumption, fun e => h (by rw [e]; rfl)⟩, fun h e => h.2 (UInt8.toNat_inj.1 (show (nth s (s.length - 1)).toNat = 10 by omega))⟩ | exact (decide_eq_false (fun h => by first | exact absurd h.1 (by assumption) | contradiction)).symm)
  refine go ?_
  exact hK10 false (by first | exact decide_eq_decide.2 ⟨fun h => ⟨by assumption, fun e => h (by rw [e]; rfl)⟩, fun h e => h.2 (UInt8.toNat_inj.1 (show (nth s (s.length - 1)).toNat = 10 by omega))⟩ | exact (decide_eq_false (fun h => by first | exact absurd h.1 (by assumption) | contradiction)).symm)
 rintro z9 w11 hz9 u12 zu12
 refine q_b (fun g20 => ?_) fun g20 => ?_
 ·
  have hzb : (s ≠ [] ∧ nth s (s.length - 1) ≠ 10) := by rw [hz9] at g20; exact of_decide_eq_true g20
  refine go ?_
  refine f_ret2 (v1 := .slice none 0 0) (v2 := .int .i64 120) results83 rfl rfl ?_
  have he : linesR s = ([], 120) := by unfold linesR; rw [if_neg (by omega), if_pos hzb]
  exact ⟨⟨none, 0, 0, by rw [he]; rfl, by rw [he]; exact (Acc.nil _ _ _ _ _ hpos (by omega))⟩, u_d⟩
 have hzb : ¬ (s ≠ [] ∧ nth s (s.length - 1) ≠ 10) := by rw [hz9] at g20; exact of_decide_eq_false g20
 refine go ?_
 refine x_l fun bk16 w17 ebk16 sbk16 B18 u19 => ?_
 refine go ?_
 refine x_l4 (fun i => i = bk16 ∨ w17.heap.size ≤ i) [0] (fun (i : Nat) (f : Nat) (ws : List (List UInt8)) (q : (Option Addr × Nat × Nat)) => [(4, .slice q.1 ws.length q.2.2), (6, .int .i64 (f : Int)), (7, .int .i64 (i : Int))]) (fun i f ws q w => (i ≤ s.length) ∧ (Acc encStr 1 9 bk16 w q.1 q.2.1 q.2.2 ws) ∧ (q.2.1 = bk16 ∨ w17.heap.size ≤ q.2.1) ∧ (PcsI 10 s ws f i) ∧ (ws.length ≤ i)) (fun i f ws q => s.length - i) 0 0 ([]) (some ⟨bk16, 0, none⟩, bk16, 0) ⟨(Nat.zero_le _), (Acc.ofBlk (xs := ([] : List (List UInt8))) encStr 1 (fun _ => rfl) B18 (Nat.le_refl _) (by decide)), (.inl rfl), (PcsI.nil _ _), (Nat.zero_le _)⟩ ?_
 rintro i f ws q w25 ⟨hi, hA, hqW, hW, hwl⟩ u26 zu26 K24 hK24
 have lt_q_2_1 := hA.lt
 have hgl := hA.lt
 have hf := hW.fi
 refine go ?_
 refine t_lenS underlying9 rfl rfl rfl rfl ?_
 refine go ?_
 refine q_p (fun g25 => ?_) fun g25 => ?_
 ·
  refine go ?_
  refine t_idxS i underlying9 rfl rfl rfl rfl rfl (by omega) ?_
  refine go ?_
  refine q_p (fun g31 => ?_) fun g31 => ?_
  ·
   refine go ?_
   refine t_subS f i underlying9 rfl rfl rfl (.inl ⟨rfl, rfl, by first | rfl | omega⟩) (.inl ⟨rfl, rfl, by first | rfl | omega⟩) (by omega) (by omega) ?_
   refine go ?_
   refine x_l fun bk33 w34 ebk33 sbk33 B35 u36 => ?_
   have D38 := (hA.keep u36 (fun _ h => h))
   refine t_append (z := .string (strB ([]))) (bytes := 16) (k := 1) (base := bk16) ((s.drop f).take (i - f)) underlying105 (by kernel_rfl) rfl (by decide) (fun _ => rfl) (by intro x; simp [encStr, Value.oneCell']) rfl rfl rfl rfl D38 B35 (by omega) (by omega) (by decide) (fun ao39 gb40 cp41 w42 A43 u44 gegb40 lngb40 => ?_)
   have zu44 := u44.size
   have lt_gb40 := A43.lt
   refine go ?_
   exact hK24 (i + 1) (i + 1) (ws ++ [(s.drop f).take (i - f)]) (ao39, gb40, cp41) ⟨(by omega), A43, (show gb40 = bk16 ∨ w17.heap.size ≤ gb40 by omega), (hW.cut (by omega) (UInt8.toNat_inj.1 (show (nth s i).toNat = 10 by omega))), (by rw [List.length_append]; simp only [List.length_cons, List.length_nil]; omega)⟩
  refine go ?_
  exact hK24 (i + 1) f ws q ⟨(by omega), hA, (show q.2.1 = bk16 ∨ w17.heap.size ≤ q.2.1 by omega), (hW.next (fun e => g31 (by rw [e]; rfl))), (by omega)⟩
 have hil : i = s.length := by omega
 rw [hil] at hW
 have hfin : ws = linesP s := by unfold linesP; rw [hW.last, List.dropLast_concat]
 refine go ?_
 refine q_p (fun g44 => ?_) fun g44 => ?_
 ·
  refine go ?_
  refine f_ret2 (v1 := .slice none 0 0) (v2 := .int .i64 5) results83 rfl rfl ?_
  have he : linesR s = ([], 5) := by unfold linesR; rw [if_neg (by omega), if_neg hzb, if_pos (by rw [← hfin]; omega)]
  exact ⟨⟨none, 0, 0, by rw [he]; rfl, by rw [he]; exact (Acc.nil _ _ _ _ _ hpos (by omega))⟩, u_d⟩
 refine go ?_
 refine f_ret2 (v1 := .slice q.1 ws.length q.2.2) (v2 := .int .i64 0) results83 rfl rfl ?_
 have he : linesR s = (ws, 0) := by unfold linesR; rw [if_neg (by omega), if_neg hzb, if_neg (by rw [← hfin]; omega), hfin]
 obtain ⟨gz, hz⟩ := Acc.lower (base' := w0.heap.size) hA (by omega) hpos
 exact ⟨⟨_, gz, _, by rw [he], by rw [he]; exact hz⟩, u_d⟩

end Go.Proofs.YtjdcpnaocjddoaaGreatDoor
namespace Go.Proofs.YtjdcpnaocjddoaaGreatDoor
open Go Go.RowKit Go.Proofs.Tryz
set_option maxHeartbeats 4000000 in
theorem digits_c (s : List UInt8) (w0 : World) (_hsl : s.length ≤ 1000000) :
    CallsV Tryz.prog 86 [.string (strB s)] w0 (fun v w' => v = .tuple #[.int .i64 (digV 6 0 s), .int .i64 ((digC 6 s : Nat) : Int)] ∧ Ext w0 w') := by
 refine f_n func86 ?_
 refine go ?_
 refine x_l2 (fun _ => False) [0] (fun (i : Nat) (v : Nat) => [(4, .int .i64 (v : Int)), (5, .int .i64 (i : Int))]) (fun i v w => (i ≤ s.length) ∧ (i ≤ 6) ∧ (v < 10 ^ i) ∧ (digV 6 0 s = digV (6 - i) (v : Int) (s.drop i)) ∧ (digC 6 s = digC (6 - i) (s.drop i) + i)) (fun i v => 6 - i) 0 0 ⟨(Nat.zero_le _), (Nat.zero_le _), (by decide), rfl, rfl⟩ ?_
 rintro i v w5 ⟨hi, hi6, hv, hdv, hdc⟩ u6 zu6 K4 hK4
 have hp6 : 10 ^ i ≤ 10 ^ 6 := Nat.pow_le_pow_right (by decide) hi6
 have hps : 10 ^ (i + 1) = 10 ^ i * 10 := Nat.pow_succ 10 i
 refine st1 ?_
 refine x_k1 (fun _ => False) [0, 4, 5] (fun (z9 : Bool) => [(25, .bool z9)]) (fun z9 w => (z9 = decide (i < s.length ∧ i < 6 ∧ isDg (nth s i) = true))) (fun K13 hK13 => ?_) ?_
 ·
  refine go ?_
  refine t_lenS underlying9 rfl rfl rfl rfl ?_
  refine go ?_
  refine t_splitp 10 rfl (fun g10 => ?_) (fun g10 => ?_)
  ·
   refine go ?_
   refine t_splitp 14 rfl (fun g14 => ?_) (fun g14 => ?_)
   ·
    refine go ?_
    refine t_idxS i underlying9 rfl rfl rfl rfl rfl (by omega) ?_
    refine go ?_
    refine t_splitp 20 rfl (fun g20 => ?_) (fun g20 => ?_)
    ·
     refine go ?_
     refine t_idxS i underlying9 rfl rfl rfl rfl rfl (by omega) ?_
     refine go ?_
     exact hK13 (decide (((nth s i).toNat : Int) ≤ 57)) (by first | exact (decide_eq_false (by omega)).symm | exact (decide_eq_false (fun h => by have h9 := of_decide_eq_true h.2.2; omega)).symm | exact decide_eq_decide.2 ⟨fun h => ⟨by omega, by omega, decide_eq_true ⟨by omega, by omega⟩⟩, fun h => (of_decide_eq_true h.2.2).2⟩)
    refine go ?_
    exact hK13 false (by first | exact (decide_eq_false (by omega)).symm | exact (decide_eq_false (fun h => by have h9 := of_decide_eq_true h.2.2; omega)).symm | exact decide_eq_decide.2 ⟨fun h => ⟨by omega, by omega, decide_eq_true ⟨by omega, by omega⟩⟩, fun h => (of_decide_eq_true h.2.2).2⟩)
   refine go ?_
   exact hK13 false (by first | exact (decide_eq_false (by omega)).symm | exact (decide_eq_false (fun h => by have h9 := of_decide_eq_true h.2.2; omega)).symm | exact decide_eq_decide.2 ⟨fun h => ⟨by omega, by omega, decide_eq_true ⟨by omega, by omega⟩⟩, fun h => (of_decide_eq_true h.2.2).2⟩)
  refine go ?_
  exact hK13 false (by first | exact (decide_eq_false (by omega)).symm | exact (decide_eq_false (fun h => by have h9 := of_decide_eq_true h.2.2; omega)).symm | exact decide_eq_decide.2 ⟨fun h => ⟨by omega, by omega, decide_eq_true ⟨by omega, by omega⟩⟩, fun h => (of_decide_eq_true h.2.2).2⟩)
 rintro z9 w14 hz9 u15 zu15
 refine q_b (fun g25 => ?_) fun g25 => ?_
 ·
  have hzb : (i < s.length ∧ i < 6 ∧ isDg (nth s i) = true) := by rw [hz9] at g25; exact of_decide_eq_true g25
  have hdg := of_decide_eq_true hzb.2.2
  refine go ?_
  refine t_idxS i underlying9 rfl rfl rfl rfl rfl (by omega) (t_bo (Bo.ari8 rfl (by omega)) rfl rfl rfl rfl (t_conv underlying5 underlying3 rfl rfl rfl (IntWalk.i64_in _ (by omega)) ?_))
  refine go ?_
  have hvi : ((10 * v + ((nth s i).toNat - 48) : Nat) : Int) = 10 * (v : Int) + (((nth s i).toNat : Int) - 48) := by omega
  exact hK4 (i + 1) (10 * v + ((nth s i).toNat - 48)) ⟨(by omega), (by omega), (by rw [hps]; omega), (by rw [hdv, show 6 - i = (6 - (i + 1)) + 1 by omega, digV_step hzb.1 hzb.2.2, hvi]), (by rw [hdc, show 6 - i = (6 - (i + 1)) + 1 by omega, digC_step hzb.1 hzb.2.2]; omega)⟩ (hs := by exact ⟨(congrArg (fun z => some (Value.int .i64 z)) (by omega)), rfl, rfl, trivial⟩)
 have hzb : ¬ (i < s.length ∧ i < 6 ∧ isDg (nth s i) = true) := by rw [hz9] at g25; exact of_decide_eq_false g25
 obtain ⟨hs1, hs2⟩ := dig_stop (n := 6 - i) (v := (v : Int)) (s := s) (i := i) (fun h => hzb ⟨h.1, by omega, h.2.2⟩)
 rw [hs1] at hdv
 rw [hs2] at hdc
 refine go ?_
 refine f_ret2 (v1 := .int .i64 (v : Int)) (v2 := .int .i64 (i : Int)) results86 rfl rfl ?_
 exact ⟨by rw [hdv, hdc, Nat.zero_add], u_d⟩

end Go.Proofs.YtjdcpnaocjddoaaGreatDoor
namespace Go.Proofs
open Go.Shelf
def YtjdcpnaocjddoaaGreatDoor.layCount_ren : Go.Shelf.Ren := ⟨fun | 138 => 122 | 195 => 152 | 218 => 153 | 143 => 154 | 219 => 169 | 217 => 173 | 225 => 185 | 224 => 186 | 267 => 187 | 266 => 189 | 314 => 201 | n => n, fun | 9 => 9 | 3 => 3 | 4 => 4 | 5 => 5 | 0 => 0 | 46 => 120 | 146 => 254 | 51 => 97 | n => n, fun | 1 => 0 | n => n⟩
theorem YtjdcpnaocjddoaaGreatDoor.layCount : Go.Proofs.Lays.n138 Tryz.prog YtjdcpnaocjddoaaGreatDoor.layCount_ren := {
  mixed := by kernel_rfl
  f138 := Tryz.func122.trans (congrArg some (by kernel_rfl))
  f143 := Tryz.func154.trans (congrArg some (by kernel_rfl))
  f195 := Tryz.func152.trans (congrArg some (by kernel_rfl))
  f217 := Tryz.func173.trans (congrArg some (by kernel_rfl))
  f218 := Tryz.func153.trans (congrArg some (by kernel_rfl))
  f219 := Tryz.func169.trans (congrArg some (by kernel_rfl))
  f224 := Tryz.func186.trans (congrArg some (by kernel_rfl))
  f225 := Tryz.func185.trans (congrArg some (by kernel_rfl))
  f266 := Tryz.func189.trans (congrArg some (by kernel_rfl))
  f267 := Tryz.func187.trans (congrArg some (by kernel_rfl))
  f314 := Tryz.func201.trans (congrArg some (by kernel_rfl))
  t0 := Tryz.underlying0
  a0 := Tryz.isAgg0
  z0 := Tryz.sizeOf0
  v0 := Tryz.zeroValue0
  t3 := Tryz.underlying3
  a3 := Tryz.isAgg3
  z3 := Tryz.sizeOf3
  v3 := Tryz.zeroValue3
  t4 := Tryz.underlying4
  a4 := Tryz.isAgg4
  z4 := Tryz.sizeOf4
  v4 := Tryz.zeroValue4
  t5 := Tryz.underlying5
  a5 := Tryz.isAgg5
  z5 := Tryz.sizeOf5
  v5 := Tryz.zeroValue5
  t9 := Tryz.underlying9
  a9 := Tryz.isAgg9
  z9 := Tryz.sizeOf9
  v9 := Tryz.zeroValue9
  t46 := Tryz.underlying120
  a46 := Tryz.isAgg120
  z46 := Tryz.sizeOf120
  v46 := Tryz.zeroValue120
  t51 := Tryz.underlying97
  a51 := Tryz.isAgg97
  z51 := Tryz.sizeOf97
  v51 := Tryz.zeroValue97
  t146 := Tryz.underlying254
  a146 := Tryz.isAgg254
  z146 := Tryz.sizeOf254
  v146 := Tryz.zeroValue254
  g1 := by kernel_rfl }
def YtjdcpnaocjddoaaGreatDoor.layIndex_ren : Go.Shelf.Ren := ⟨fun | 143 => 154 | 219 => 169 | 217 => 173 | 225 => 185 | 224 => 186 | 267 => 187 | 266 => 189 | 314 => 201 | n => n, fun | 9 => 9 | 3 => 3 | 4 => 4 | 5 => 5 | 46 => 120 | 146 => 254 | 51 => 97 | n => n, fun | 1 => 0 | n => n⟩
theorem YtjdcpnaocjddoaaGreatDoor.layIndex : Go.Proofs.Lays.n143 Tryz.prog YtjdcpnaocjddoaaGreatDoor.layIndex_ren := {
  mixed := by kernel_rfl
  f143 := Tryz.func154.trans (congrArg some (by kernel_rfl))
  f217 := Tryz.func173.trans (congrArg some (by kernel_rfl))
  f219 := Tryz.func169.trans (congrArg some (by kernel_rfl))
  f224 := Tryz.func186.trans (congrArg some (by kernel_rfl))
  f225 := Tryz.func185.trans (congrArg some (by kernel_rfl))
  f266 := Tryz.func189.trans (congrArg some (by kernel_rfl))
  f267 := Tryz.func187.trans (congrArg some (by kernel_rfl))
  f314 := Tryz.func201.trans (congrArg some (by kernel_rfl))
  t3 := Tryz.underlying3
  a3 := Tryz.isAgg3
  z3 := Tryz.sizeOf3
  v3 := Tryz.zeroValue3
  t4 := Tryz.underlying4
  a4 := Tryz.isAgg4
  z4 := Tryz.sizeOf4
  v4 := Tryz.zeroValue4
  t5 := Tryz.underlying5
  a5 := Tryz.isAgg5
  z5 := Tryz.sizeOf5
  v5 := Tryz.zeroValue5
  t9 := Tryz.underlying9
  a9 := Tryz.isAgg9
  z9 := Tryz.sizeOf9
  v9 := Tryz.zeroValue9
  t46 := Tryz.underlying120
  a46 := Tryz.isAgg120
  z46 := Tryz.sizeOf120
  v46 := Tryz.zeroValue120
  t51 := Tryz.underlying97
  a51 := Tryz.isAgg97
  z51 := Tryz.sizeOf97
  v51 := Tryz.zeroValue97
  t146 := Tryz.underlying254
  a146 := Tryz.isAgg254
  z146 := Tryz.sizeOf254
  v146 := Tryz.zeroValue254
  g1 := by kernel_rfl }
def YtjdcpnaocjddoaaGreatDoor.layGen_ren : Go.Shelf.Ren := ⟨fun | 221 => 174 | 268 => 190 | 138 => 122 | 143 => 154 | 195 => 152 | 197 => 171 | 218 => 153 | 219 => 169 | 260 => 188 | 217 => 173 | 225 => 185 | 224 => 186 | 267 => 187 | 266 => 189 | 314 => 201 | n => n, fun | 9 => 9 | 3 => 3 | 31 => 105 | 4 => 4 | 0 => 0 | 105 => 228 | 21 => 21 | 5 => 5 | 46 => 120 | 119 => 256 | 139 => 259 | 138 => 258 | 146 => 254 | 51 => 97 | n => n, fun | 1 => 0 | 3 => 3 | 4 => 4 | n => n⟩
theorem YtjdcpnaocjddoaaGreatDoor.layGen : Go.Proofs.Lays.n221 Tryz.prog YtjdcpnaocjddoaaGreatDoor.layGen_ren := {
  mixed := by kernel_rfl
  f138 := Tryz.func122.trans (congrArg some (by kernel_rfl))
  f143 := Tryz.func154.trans (congrArg some (by kernel_rfl))
  f195 := Tryz.func152.trans (congrArg some (by kernel_rfl))
  f197 := Tryz.func171.trans (congrArg some (by kernel_rfl))
  f217 := Tryz.func173.trans (congrArg some (by kernel_rfl))
  f218 := Tryz.func153.trans (congrArg some (by kernel_rfl))
  f219 := Tryz.func169.trans (congrArg some (by kernel_rfl))
  f221 := Tryz.func174.trans (congrArg some (by kernel_rfl))
  f224 := Tryz.func186.trans (congrArg some (by kernel_rfl))
  f225 := Tryz.func185.trans (congrArg some (by kernel_rfl))
  f260 := Tryz.func188.trans (congrArg some (by kernel_rfl))
  f266 := Tryz.func189.trans (congrArg some (by kernel_rfl))
  f267 := Tryz.func187.trans (congrArg some (by kernel_rfl))
  f268 := Tryz.func190.trans (congrArg some (by kernel_rfl))
  f314 := Tryz.func201.trans (congrArg some (by kernel_rfl))
  t0 := Tryz.underlying0
  a0 := Tryz.isAgg0
  z0 := Tryz.sizeOf0
  v0 := Tryz.zeroValue0
  t3 := Tryz.underlying3
  a3 := Tryz.isAgg3
  z3 := Tryz.sizeOf3
  v3 := Tryz.zeroValue3
  t4 := Tryz.underlying4
  a4 := Tryz.isAgg4
  z4 := Tryz.sizeOf4
  v4 := Tryz.zeroValue4
  t5 := Tryz.underlying5
  a5 := Tryz.isAgg5
  z5 := Tryz.sizeOf5
  v5 := Tryz.zeroValue5
  t9 := Tryz.underlying9
  a9 := Tryz.isAgg9
  z9 := Tryz.sizeOf9
  v9 := Tryz.zeroValue9
  t21 := Tryz.underlying21
  a21 := Tryz.isAgg21
  z21 := Tryz.sizeOf21
  v21 := Tryz.zeroValue21
  t31 := Tryz.underlying105
  a31 := Tryz.isAgg105
  z31 := Tryz.sizeOf105
  v31 := Tryz.zeroValue105
  t46 := Tryz.underlying120
  a46 := Tryz.isAgg120
  z46 := Tryz.sizeOf120
  v46 := Tryz.zeroValue120
  t51 := Tryz.underlying97
  a51 := Tryz.isAgg97
  z51 := Tryz.sizeOf97
  v51 := Tryz.zeroValue97
  t105 := Tryz.underlying228
  a105 := Tryz.isAgg228
  z105 := Tryz.sizeOf228
  v105 := Tryz.zeroValue228
  t119 := Tryz.underlying256
  a119 := Tryz.isAgg256
  z119 := Tryz.sizeOf256
  t138 := Tryz.underlying258
  a138 := Tryz.isAgg258
  z138 := Tryz.sizeOf258
  v138 := Tryz.zeroValue258
  t139 := Tryz.underlying259
  a139 := Tryz.isAgg259
  z139 := Tryz.sizeOf259
  v139 := Tryz.zeroValue259
  t146 := Tryz.underlying254
  a146 := Tryz.isAgg254
  z146 := Tryz.sizeOf254
  v146 := Tryz.zeroValue254
  g1 := by kernel_rfl
  g3 := by kernel_rfl
  g4 := by kernel_rfl }
def YtjdcpnaocjddoaaGreatDoor.layHas_ren : Go.Shelf.Ren := ⟨fun | 100 => 121 | 207 => 151 | n => n, fun | 9 => 9 | 4 => 4 | 3 => 3 | n => n, fun | n => n⟩
theorem YtjdcpnaocjddoaaGreatDoor.layHas : Go.Proofs.Lays.n100 Tryz.prog YtjdcpnaocjddoaaGreatDoor.layHas_ren := {
  mixed := by kernel_rfl
  f100 := Tryz.func121.trans (congrArg some (by kernel_rfl))
  f207 := Tryz.func151.trans (congrArg some (by kernel_rfl))
  t3 := Tryz.underlying3
  a3 := Tryz.isAgg3
  z3 := Tryz.sizeOf3
  v3 := Tryz.zeroValue3
  t4 := Tryz.underlying4
  a4 := Tryz.isAgg4
  z4 := Tryz.sizeOf4
  v4 := Tryz.zeroValue4
  t9 := Tryz.underlying9
  a9 := Tryz.isAgg9
  z9 := Tryz.sizeOf9
  v9 := Tryz.zeroValue9 }
def YtjdcpnaocjddoaaGreatDoor.layTrim_ren : Go.Shelf.Ren := ⟨fun | 102 => 125 | 209 => 158 | 207 => 151 | n => n, fun | 9 => 9 | 4 => 4 | 3 => 3 | n => n, fun | n => n⟩
theorem YtjdcpnaocjddoaaGreatDoor.layTrim : Go.Proofs.Lays.n102 Tryz.prog YtjdcpnaocjddoaaGreatDoor.layTrim_ren := {
  mixed := by kernel_rfl
  f102 := Tryz.func125.trans (congrArg some (by kernel_rfl))
  f207 := Tryz.func151.trans (congrArg some (by kernel_rfl))
  f209 := Tryz.func158.trans (congrArg some (by kernel_rfl))
  t3 := Tryz.underlying3
  a3 := Tryz.isAgg3
  z3 := Tryz.sizeOf3
  v3 := Tryz.zeroValue3
  t4 := Tryz.underlying4
  a4 := Tryz.isAgg4
  z4 := Tryz.sizeOf4
  v4 := Tryz.zeroValue4
  t9 := Tryz.underlying9
  a9 := Tryz.isAgg9
  z9 := Tryz.sizeOf9
  v9 := Tryz.zeroValue9 }
def YtjdcpnaocjddoaaGreatDoor.layIxB_ren : Go.Shelf.Ren := ⟨fun | 217 => 173 | 266 => 189 | n => n, fun | 9 => 9 | 5 => 5 | 3 => 3 | n => n, fun | n => n⟩
theorem YtjdcpnaocjddoaaGreatDoor.layIxB : Go.Proofs.Lays.n217 Tryz.prog YtjdcpnaocjddoaaGreatDoor.layIxB_ren := {
  mixed := by kernel_rfl
  f217 := Tryz.func173.trans (congrArg some (by kernel_rfl))
  f266 := Tryz.func189.trans (congrArg some (by kernel_rfl))
  t3 := Tryz.underlying3
  a3 := Tryz.isAgg3
  z3 := Tryz.sizeOf3
  v3 := Tryz.zeroValue3
  t5 := Tryz.underlying5
  a5 := Tryz.isAgg5
  z5 := Tryz.sizeOf5
  v5 := Tryz.zeroValue5
  t9 := Tryz.underlying9
  a9 := Tryz.isAgg9
  z9 := Tryz.sizeOf9
  v9 := Tryz.zeroValue9 }
def YtjdcpnaocjddoaaGreatDoor.layAtoi_ren : Go.Shelf.Ren := ⟨fun | 172 => 132 | 244 => 159 | 245 => 160 | 247 => 175 | 279 => 176 | 280 => 177 | 281 => 178 | 282 => 179 | 287 => 191 | 316 => 192 | 171 => 145 | 205 => 193 | 321 => 202 | 322 => 203 | 243 => 167 | 246 => 183 | 283 => 196 | 284 => 197 | 285 => 198 | 286 => 199 | 129 => 143 | 317 => 205 | 318 => 206 | 319 => 207 | 320 => 208 | 337 => 209 | 338 => 210 | n => n, fun | 9 => 9 | 3 => 3 | 75 => 192 | 76 => 193 | 4 => 4 | 5 => 5 | 167 => 233 | 37 => 25 | 0 => 0 | 85 => 234 | 2 => 2 | 168 => 236 | 53 => 214 | 175 => 243 | 46 => 120 | 210 => 246 | 127 => 218 | 145 => 263 | 143 => 261 | 21 => 21 | 171 => 249 | 173 => 251 | 212 => 266 | 51 => 97 | 20 => 20 | 213 => 267 | 232 => 123 | 233 => 268 | 80 => 195 | n => n, fun | 15 => 1 | 16 => 2 | 17 => 5 | 18 => 6 | 19 => 7 | n => n⟩
theorem YtjdcpnaocjddoaaGreatDoor.layAtoi : Go.Proofs.LaysC.n172 Tryz.prog YtjdcpnaocjddoaaGreatDoor.layAtoi_ren := {
  mixed := by kernel_rfl
  f129 := Tryz.func143.trans (congrArg some (by kernel_rfl))
  f171 := Tryz.func145.trans (congrArg some (by kernel_rfl))
  f172 := Tryz.func132.trans (congrArg some (by kernel_rfl))
  f205 := Tryz.func193.trans (congrArg some (by kernel_rfl))
  f243 := Tryz.func167.trans (congrArg some (by kernel_rfl))
  f244 := Tryz.func159.trans (congrArg some (by kernel_rfl))
  f245 := Tryz.func160.trans (congrArg some (by kernel_rfl))
  f246 := Tryz.func183.trans (congrArg some (by kernel_rfl))
  f247 := Tryz.func175.trans (congrArg some (by kernel_rfl))
  f279 := Tryz.func176.trans (congrArg some (by kernel_rfl))
  f280 := Tryz.func177.trans (congrArg some (by kernel_rfl))
  f281 := Tryz.func178.trans (congrArg some (by kernel_rfl))
  f282 := Tryz.func179.trans (congrArg some (by kernel_rfl))
  f283 := Tryz.func196.trans (congrArg some (by kernel_rfl))
  f284 := Tryz.func197.trans (congrArg some (by kernel_rfl))
  f285 := Tryz.func198.trans (congrArg some (by kernel_rfl))
  f286 := Tryz.func199.trans (congrArg some (by kernel_rfl))
  f287 := Tryz.func191.trans (congrArg some (by kernel_rfl))
  f316 := Tryz.func192.trans (congrArg some (by kernel_rfl))
  f317 := Tryz.func205.trans (congrArg some (by kernel_rfl))
  f318 := Tryz.func206.trans (congrArg some (by kernel_rfl))
  f319 := Tryz.func207.trans (congrArg some (by kernel_rfl))
  f320 := Tryz.func208.trans (congrArg some (by kernel_rfl))
  f321 := Tryz.func202.trans (congrArg some (by kernel_rfl))
  f322 := Tryz.func203.trans (congrArg some (by kernel_rfl))
  f337 := Tryz.func209.trans (congrArg some (by kernel_rfl))
  f338 := Tryz.func210.trans (congrArg some (by kernel_rfl))
  t0 := Tryz.underlying0
  a0 := Tryz.isAgg0
  z0 := Tryz.sizeOf0
  v0 := Tryz.zeroValue0
  t2 := Tryz.underlying2
  a2 := Tryz.isAgg2
  z2 := Tryz.sizeOf2
  v2 := Tryz.zeroValue2
  t3 := Tryz.underlying3
  a3 := Tryz.isAgg3
  z3 := Tryz.sizeOf3
  v3 := Tryz.zeroValue3
  t4 := Tryz.underlying4
  a4 := Tryz.isAgg4
  z4 := Tryz.sizeOf4
  v4 := Tryz.zeroValue4
  t5 := Tryz.underlying5
  a5 := Tryz.isAgg5
  z5 := Tryz.sizeOf5
  v5 := Tryz.zeroValue5
  t9 := Tryz.underlying9
  a9 := Tryz.isAgg9
  z9 := Tryz.sizeOf9
  v9 := Tryz.zeroValue9
  t20 := Tryz.underlying20
  a20 := Tryz.isAgg20
  z20 := Tryz.sizeOf20
  v20 := Tryz.zeroValue20
  t21 := Tryz.underlying21
  a21 := Tryz.isAgg21
  z21 := Tryz.sizeOf21
  v21 := Tryz.zeroValue21
  t37 := Tryz.underlying25
  a37 := Tryz.isAgg25
  z37 := Tryz.sizeOf25
  v37 := Tryz.zeroValue25
  t46 := Tryz.underlying120
  a46 := Tryz.isAgg120
  z46 := Tryz.sizeOf120
  v46 := Tryz.zeroValue120
  t51 := Tryz.underlying97
  a51 := Tryz.isAgg97
  z51 := Tryz.sizeOf97
  v51 := Tryz.zeroValue97
  t53 := Tryz.underlying214
  a53 := Tryz.isAgg214
  z53 := Tryz.sizeOf214
  v53 := Tryz.zeroValue214
  t75 := Tryz.underlying192
  a75 := Tryz.isAgg192
  z75 := Tryz.sizeOf192
  v75 := Tryz.zeroValue192
  t76 := Tryz.underlying193
  a76 := Tryz.isAgg193
  z76 := Tryz.sizeOf193
  v76 := Tryz.zeroValue193
  t85 := Tryz.underlying234
  a85 := Tryz.isAgg234
  z85 := Tryz.sizeOf234
  v85 := Tryz.zeroValue234
  t127 := Tryz.underlying218
  a127 := Tryz.isAgg218
  z127 := Tryz.sizeOf218
  v127 := Tryz.zeroValue218
  t143 := Tryz.underlying261
  a143 := Tryz.isAgg261
  z143 := Tryz.sizeOf261
  v143 := Tryz.zeroValue261
  t145 := Tryz.underlying263
  a145 := Tryz.isAgg263
  z145 := Tryz.sizeOf263
  v145 := Tryz.zeroValue263
  t167 := Tryz.underlying233
  a167 := Tryz.isAgg233
  z167 := Tryz.sizeOf233
  v167 := Tryz.zeroValue233
  t168 := Tryz.underlying236
  a168 := Tryz.isAgg236
  z168 := Tryz.sizeOf236
  v168 := Tryz.zeroValue236
  t171 := Tryz.underlying249
  a171 := Tryz.isAgg249
  z171 := Tryz.sizeOf249
  v171 := Tryz.zeroValue249
  t173 := Tryz.underlying251
  a173 := Tryz.isAgg251
  z173 := Tryz.sizeOf251
  v173 := Tryz.zeroValue251
  t175 := Tryz.underlying243
  a175 := Tryz.isAgg243
  z175 := Tryz.sizeOf243
  v175 := Tryz.zeroValue243
  t210 := Tryz.underlying246
  a210 := Tryz.isAgg246
  z210 := Tryz.sizeOf246
  v210 := Tryz.zeroValue246
  t212 := Tryz.underlying266
  a212 := Tryz.isAgg266
  z212 := Tryz.sizeOf266
  v212 := Tryz.zeroValue266
  t213 := Tryz.underlying267
  a213 := Tryz.isAgg267
  z213 := Tryz.sizeOf267
  t232 := Tryz.underlying123
  a232 := Tryz.isAgg123
  z232 := Tryz.sizeOf123
  v232 := Tryz.zeroValue123
  t233 := Tryz.underlying268
  a233 := Tryz.isAgg268
  z233 := Tryz.sizeOf268
  v233 := Tryz.zeroValue268
  g15 := by kernel_rfl
  g16 := by kernel_rfl
  g17 := by kernel_rfl
  g18 := by kernel_rfl
  g19 := by kernel_rfl
  t80 := Tryz.underlying195
  a80 := Tryz.isAgg195
  z80 := Tryz.sizeOf195
  v80 := Tryz.zeroValue195
  i0 := by kernel_rfl
  i2 := by kernel_rfl
  i3 := by kernel_rfl
  i4 := by kernel_rfl
  i5 := by kernel_rfl
  i9 := by kernel_rfl
  i20 := by kernel_rfl
  i21 := by kernel_rfl
  i37 := by kernel_rfl
  i46 := by kernel_rfl
  i51 := by kernel_rfl
  i53 := by kernel_rfl
  i75 := by kernel_rfl
  i76 := by kernel_rfl
  i80 := by kernel_rfl
  i85 := by kernel_rfl
  i127 := by kernel_rfl
  i143 := by kernel_rfl
  i145 := by kernel_rfl
  i167 := by kernel_rfl
  i168 := by kernel_rfl
  i171 := by kernel_rfl
  i173 := by kernel_rfl
  i175 := by kernel_rfl
  i210 := by kernel_rfl
  i212 := by kernel_rfl
  i232 := by kernel_rfl
  i233 := by kernel_rfl
  m15 := by kernel_rfl
  m16 := by kernel_rfl
  m17 := by kernel_rfl
  m18 := by kernel_rfl
  m19 := by kernel_rfl
  c0 := by kernel_rfl
  c2 := by kernel_rfl
  c3 := by kernel_rfl
  c4 := by kernel_rfl
  c5 := by kernel_rfl
  c9 := by kernel_rfl
  c20 := by kernel_rfl
  c21 := by kernel_rfl
  c37 := by kernel_rfl
  c46 := by kernel_rfl
  c51 := by kernel_rfl
  c53 := by kernel_rfl
  c75 := by kernel_rfl
  c76 := by kernel_rfl
  c80 := by kernel_rfl
  c85 := by kernel_rfl
  c127 := by kernel_rfl
  c143 := by kernel_rfl
  c145 := by kernel_rfl
  c167 := by kernel_rfl
  c168 := by kernel_rfl
  c171 := by kernel_rfl
  c173 := by kernel_rfl
  c175 := by kernel_rfl
  c210 := by kernel_rfl
  c212 := by kernel_rfl
  c213 := by kernel_rfl
  c232 := by kernel_rfl
  c233 := by kernel_rfl }
end Go.Proofs
namespace Go.Proofs.YtjdcpnaocjddoaaGreatDoor
open Go Go.RowKit Go.Proofs.Tryz Go.Shelf
theorem suff_one (s : List UInt8) (c : UInt8) : Lib.hasSuffix s [c] = decide (s ≠ [] ∧ nth s (s.length - 1) = c) := by
  unfold Lib.hasSuffix
  rcases List.eq_nil_or_concat s with rfl | ⟨t, x, rfl⟩
  · simp
  · rw [List.concat_eq_append]
    have e : nth (t ++ [x]) ((t ++ [x]).length - 1) = x := by rw [List.length_append]; show nth (t ++ [x]) t.length = x; rw [nth_ap0]; rfl
    rw [e]
    rw [Bool.eq_iff_iff, List.isSuffixOf_iff_suffix, decide_eq_true_eq]
    constructor
    · rintro ⟨u, hu⟩
      exact ⟨by simp, (List.singleton_inj.1 (List.append_inj' hu rfl).2).symm⟩
    · rintro ⟨_, rfl⟩
      exact ⟨t, rfl⟩
theorem count_c (s : List UInt8) (c : UInt8) (w0 : World) : CallsV Tryz.prog 122 [.string (strB s), .string (strB [c])] w0 fun v w' => v = .int .i64 ((s.count c : Nat) : Int) ∧ Ext w0 w' := by
  refine Calls.mono (Any.strings_Count_one layCount (strB s) c w0) ?_
  rintro e w' ⟨rfl, rfl⟩
  exact ⟨_, rfl, by rw [strB_data]; rfl, Upd.refl _ _⟩
theorem index_c (s : List UInt8) (c : UInt8) (w0 : World) : CallsV Tryz.prog 154 [.string (strB s), .string (strB [c])] w0 fun v w' => v = .int .i64 (Lib.indexByte s c) ∧ Ext w0 w' := by
  refine Calls.mono (Any.strings_Index_one layIndex (strB s) c w0) ?_
  rintro e w' ⟨rfl, rfl⟩
  exact ⟨_, rfl, by rw [strB_data], Upd.refl _ _⟩
theorem lindex_c (s : List UInt8) (c : UInt8) (w0 : World) : CallsV Tryz.prog 169 [.string (strB s), .string (strB [c])] w0 fun v w' => v = .int .i64 (Lib.indexByte s c) ∧ Ext w0 w' := by
  refine Calls.mono (Any.stringslite_Index_one { layIndex with } (strB s) c w0) ?_
  rintro e w' ⟨rfl, rfl⟩
  exact ⟨_, rfl, by rw [strB_data], Upd.refl _ _⟩
theorem ixb_c (s : List UInt8) (c : UInt8) (w0 : World) : CallsV Tryz.prog 173 [.string (strB s), .int .u8 (c.toNat : Int)] w0 fun v w' => v = .int .i64 (Lib.indexByte s c) ∧ Ext w0 w' := by
  refine Calls.mono (Any.stringslite_IndexByte layIxB (strB s) (c.toNat : Int) w0) ?_
  rintro e w' ⟨rfl, rfl⟩
  exact ⟨_, rfl, by rw [strB_data]; simp, Upd.refl _ _⟩
theorem has_c (s : List UInt8) (c : UInt8) (w0 : World) (hl : s.length ≤ 1000000000) : CallsV Tryz.prog 121 [.string (strB s), .string (strB [c])] w0 fun v w' => v = .bool (decide (s ≠ [] ∧ nth s (s.length - 1) = c)) ∧ Ext w0 w' := by
  refine Calls.mono (Any.strings_HasSuffix layHas (strB s) (strB [c]) w0 (by rw [strB_size]; omega)) ?_
  rintro e w' ⟨rfl, rfl⟩
  refine ⟨_, rfl, ?_, Upd.refl _ _⟩
  rw [strB_data, strB_data, suff_one]
theorem trim_c (s : List UInt8) (c : UInt8) (w0 : World) (hl : s.length ≤ 1000000000) : CallsV Tryz.prog 125 [.string (strB (s ++ [c])), .string (strB [c])] w0 fun v w' => v = .string (strB s) ∧ Ext w0 w' := by
  refine Calls.mono (Any.strings_TrimSuffix layTrim (strB (s ++ [c])) (strB [c]) w0 (by rw [strB_size, List.length_append]; simp; omega)) ?_
  rintro e w' ⟨rfl, rfl⟩
  refine ⟨_, rfl, ?_, Upd.refl _ _⟩
  rw [strB_data, strB_data]
  unfold Lib.trimSuffix
  rw [suff_one, if_pos (by rw [decide_eq_true_eq]; exact ⟨by simp, by rw [List.length_append]; show nth (s ++ [c]) s.length = c; rw [nth_ap0]; rfl⟩)]
  rw [List.length_append]
  show Value.string (strB ((s ++ [c]).take s.length)) = _
  rw [List.take_left' rfl]
theorem strs_of (l : List ByteArray) : l.map Value.string = (l.map (·.data.toList)).flatMap encStr := by
  induction l with
  | nil => rfl
  | cons x l ih =>
    rw [List.map_cons, List.map_cons, List.flatMap_cons, ih]; rfl
theorem genSplit_c (s : List UInt8) (c : UInt8) (w0 : World) (hl : s.length ≤ 1000000000) : CallsV Tryz.prog 174 [.string (strB s), .string (strB [c]), .int .i64 0, .int .i64 (-1)] w0 fun v w' => (∃ b, v = .slice (some ⟨b, 0, none⟩) (pcs c s).length (pcs c s).length ∧ w0.heap.size ≤ b ∧ Blk w' b 9 ((pcs c s).flatMap encStr)) ∧ Ext w0 w' := by
  have e1 : Lib.countB (strB s) (strB [c]) = s.count c := by
    show Lib.count (strB s).data.toList (strB [c]).data.toList = _
    rw [strB_data, strB_data, Lib.count_one]
  have hcl : s.count c ≤ s.length := List.count_le_length
  have h := Any.strings_genSplit_core layGen (by kernel_rfl) (strB s) (strB [c]) 0 (-1) (s.count c + 1) w0 (by rw [strB_size]; omega) (by rw [strB_size]; exact Nat.le_refl _) (Nat.zero_le _)
    (fun x cs _ => (Any.strings_Index_one { layGen with } x c _).mono fun e w' ⟨he, hw⟩ => ⟨by
      rw [he]
      show _ = Ending.returned (Value.int .i64 (Lib.index x.data.toList (strB [c]).data.toList))
      rw [strB_data, Lib.index_one], hw⟩)
    ((Any.strings_Count_one { layGen with } (strB s) c w0).mono fun e w' ⟨he, hw⟩ => ⟨by rw [he, e1, strB_data]; rfl, hw⟩)
    (by decide) (by decide) (by rw [e1, if_pos (by decide), strB_size]; omega)
  refine Calls.mono h ?_
  rintro e w' ⟨rfl, rfl⟩
  have e2 := Lib.splitB_data (strB [c]) 0 (s.count c) (strB s)
  rw [strB_data, strB_data, splitK_pcs c _ s rfl] at e2
  have e3 : (Lib.splitB (strB [c]) 0 (s.count c + 1 - 1) (strB s)).length = (pcs c s).length := by rw [Nat.add_sub_cancel, ← e2, List.length_map]
  have e4 : s.count c + 1 = (pcs c s).length := (pcs_count c s).symm
  have e5 : Lib.cellsOf (Lib.splitB (strB [c]) 0 (s.count c + 1 - 1) (strB s)) (s.count c + 1) = ((pcs c s).flatMap encStr).toArray := by
    rw [Nat.add_sub_cancel] at e3 ⊢
    rw [e4, ← e3, Lib.cellsOf_full, strs_of, ← e2]
  refine ⟨_, rfl, ⟨w0.heap.size, by rw [e3, e4], Nat.le_refl _, ?_⟩, ?_⟩
  · rw [e5]
    exact World.alloc_heap_new w0 _
  · exact Upd.alloc _ _

end Go.Proofs.YtjdcpnaocjddoaaGreatDoor
namespace Go.Proofs.YtjdcpnaocjddoaaGreatDoor
open Go Go.RowKit

/-- What an iterator is given: at each place where Y holds it may hand out the element, and Z holds behind it; the loop's own blocks l and D are left alone. -/
structure Hands {γ : Type} (P : Program) (l D : Nat) (enc : γ → Value) (Y Z : γ → World → Prop) (R : World → Prop) : Prop where
  keep : ∀ {W W' : World} {S : Nat → Prop}, R W → Upd S W W' → ¬ S l → ¬ S D → R W'
  cell : ∀ {W : World} {b : Nat} {t : TypeId} {cs : List Value}, R W → Blk W b t cs → b ≠ l ∧ b ≠ D
  hand : ∀ x W, Y x W → R W → YieldAt Fence.wide 3 P l #[enc x] W fun e W' => e = .returned (.bool true) ∧ Z x W' ∧ R W'

/-- It stands where the loop's record is turned. -/
def Turned {β : Type} (l : Nat) (I : β → World → Prop) : Prop := ∀ x W W', I x W → (∃ r, W.heap[l]? = some (.loop r)) → Upd (· = l) W W' → I x W'
theorem Turned.and {β : Type} {l : Nat} {I J : β → World → Prop} (h : Turned l I) (k : Turned l J) : Turned l (fun x W => I x W ∧ J x W) := fun x W W' hi hl u => ⟨h x W W' hi.1 hl u, k x W W' hi.2 hl u⟩

section
variable {P : Program} {Q : Exit → Act → World → Prop} {N : Nat} {ds : List Deferred} {L : Slots} {w : World}

end

theorem Blk.notLoop {w : World} {b l : Nat} {t : TypeId} {cs : List Value} (h : Blk w b t cs) (hl : ∃ r, w.heap[l]? = some (.loop r)) : b ≠ l := fun e => by
  subst e; obtain ⟨r, hl⟩ := hl; unfold Blk at h; rw [hl] at h; cases h
theorem Sl.notLoop {α : Type} [Inhabited α] {enc : α → List Value} {k : Nat} (hk : ∀ x, 0 < (enc x).length) {w : World} {ao : Option Addr} {b o l : Nat} {xs : List α} (h : Sl enc k w ao b o xs) (hl : ∃ r, w.heap[l]? = some (.loop r)) (hp : 0 < xs.length) : b ≠ l := fun e => by
  subst e; obtain ⟨r, hl⟩ := hl
  have h1 := h.at_ 0 hp 0 _ (List.getElem?_eq_getElem (hk _))
  simp [World.cell?, hl] at h1
end Go.Proofs.YtjdcpnaocjddoaaGreatDoor
namespace Go.Proofs.YtjdcpnaocjddoaaGreatDoor
open Go Go.RowKit

/-- How a round ends that may leave. -/
def postL (B : Nat) (Z Zf : World → Prop) (W : World) : Exit → Act → World → Prop
  | .normal, _, W' => KeepsFrom B W W' ∧ Z W'
  | .ret, _, W' => KeepsFrom B W W' ∧ Zf W'
  | _, _, _ => False

/-- What an iterator is given: at each place where Y holds it may hand out the element; Z holds behind it, or it is told to end, and Zf holds; the loop's own blocks l and D are left alone. -/
structure HandsL {γ : Type} (P : Program) (l D : Nat) (enc : γ → Value) (Y Z Zf : γ → World → Prop) (R Rf : World → Prop) : Prop where
  keep : ∀ {W W' : World} {S : Nat → Prop}, R W → Upd S W W' → ¬ S l → ¬ S D → R W'
  keepf : ∀ {W W' : World} {S : Nat → Prop}, Rf W → Upd S W W' → ¬ S l → ¬ S D → Rf W'
  cell : ∀ {W : World} {b : Nat} {t : TypeId} {cs : List Value}, R W → Blk W b t cs → b ≠ l ∧ b ≠ D
  hand : ∀ x W, Y x W → R W → YieldAt Fence.wide 3 P l #[enc x] W fun e W' => (e = .returned (.bool true) ∧ Z x W' ∧ R W') ∨ (e = .returned (.bool false) ∧ Zf x W' ∧ Rf W')

section
variable {P : Program} {Q : Exit → Act → World → Prop} {N : Nat} {ds : List Deferred} {L : Slots} {w : World}

theorem c_rangeL {γ : Type} {go : Operand} {p : Nat} {assign body : Code} {gf : Nat} {lb : List Value} {enc : γ → Value} (ho : Own P gf)
    (hp : Nat.blt p N = true) (hg : ev L go = some (.func (.func gf) #[] lb.toArray))
    (Y Z Zf : γ → World → Prop) (E Ef : World → Prop) (hZo : Turned (w.heap.size + 1) Z) (hZfo : Turned (w.heap.size + 1) Zf) (hEo : Turned (w.heap.size + 1) (fun (_ : Unit) W => E W)) (hEfo : Turned (w.heap.size + 1) (fun (_ : Unit) W => Ef W))
    (hiter : ∀ (l D : Nat) (R Rf : World → Prop) (W : World), D = w.heap.size → l = w.heap.size + 1 → W.heap.size = w.heap.size + 2 → Ext w W → HandsL P l D enc Y Z Zf R Rf → R W →
      CallsV P gf (.func (.yield l) #[] #[] :: lb) W (fun _ W' => (E W' ∧ R W') ∨ (Ef W' ∧ Rf W')))
    {δ : Type} (La : γ → δ → Slots) (Y' : γ → δ → World → Prop) (hYo' : ∀ d, Turned (w.heap.size + 1) (fun x W => Y' x d W))
    (hassign : ∀ (l : Nat) (x : γ) (W : World) (K : Act → World → Prop), Y x W → (∀ d L' W', Sub (La x d) L' → Ext W W' → Y' x d W' → QK K N [] L' W') → WC (some l) P (Exit.then K (fun _ _ _ => False)) N [] assign ((p, enc x) :: L) W)
    (hbody : ∀ (l : Nat) (x : γ) (d : δ) (W : World), Y' x d W → WC (some l) P (postL w.heap.size (Z x) (Zf x) W) N [] body (La x d) W)
    (hleft : ∀ (D : Nat) (W : World), w.heap.size ≤ D → Ef W → W.heap[D]? = some (.deferred (some [])) → QK (Q .ret) N (mark D :: ds) L W)
    (hdone : ∀ (D : Nat) (W : World), w.heap.size ≤ D → E W → W.heap[D]? = some (.deferred (some [])) → QK (Q .normal) N (mark D :: ds) L W) :
    WC none P Q N ds (.rangeFunc go #[p] assign body) L w := by
  refine ⟨fun a ha => ?_⟩
  refine wpIn_rangeFunc (F := Fence.wide) (n := 3) fun fn hfn => ?_
  let rec_ : LoopState → Option Code → Loop := fun st pd => { state := st, pending := pd, fn, tmps := a.tmps, params := #[p], assign, body, defers := w.heap.size }
  have hsz : ((w.alloc (.deferred (some []))).alloc (.loop (rec_ .ready none))).heap.size = w.heap.size + 2 := by simp
  have hD1 : ((w.alloc (.deferred (some []))).alloc (.loop (rec_ .ready none))).heap[w.heap.size]? = some (.deferred (some [])) :=
    ((Upd.alloc (w.alloc (.deferred (some []))) (.loop (rec_ .ready none))).block _ (by simp) id).trans (World.alloc_heap_new w _)
  have hL1 : ((w.alloc (.deferred (some []))).alloc (.loop (rec_ .ready none))).heap[w.heap.size + 1]? = some (.loop (rec_ .ready none)) := by
    have := World.alloc_heap_new (w.alloc (.deferred (some []))) (.loop (rec_ .ready none)); rwa [World.size_alloc] at this
  have hE1 : Ext w ((w.alloc (.deferred (some []))).alloc (.loop (rec_ .ready none))) := (Upd.alloc _ _).trans (Upd.alloc _ _)
  refine ⟨w.heap.size + 1, [{ target := .collected w.heap.size, args := #[] }], (w.alloc (.deferred (some []))).alloc (.loop (rec_ .ready none)), { target := .fn (.func gf) lb.toArray, args := #[.func (.yield (w.heap.size + 1)) #[] #[]] }, (w.alloc (.deferred (some []))).alloc (.loop (rec_ .ready none)), gf,
    #[.func (.yield (w.heap.size + 1)) #[] #[]] ++ lb.toArray, (w.alloc (.deferred (some []))).alloc (.loop (rec_ .ready none)), ?_, ?_, fun _ _ => trivial, ?_, fun _ => by decide, ?_⟩
  · exact run_enterLoop_outer _ _ _ _ _
  · simp only [resolve, ha.ev hg]
    simp [go_sem]
  · simp [invoke, go_sem, ho.run]
  · have hH : HandsL P (w.heap.size + 1) w.heap.size enc Y Z Zf (fun W => W.heap[w.heap.size + 1]? = some (.loop (rec_ .ready none)) ∧ W.heap[w.heap.size]? = some (.deferred (some []))) (fun W => W.heap[w.heap.size + 1]? = some (.loop (rec_ .done (some .ret))) ∧ W.heap[w.heap.size]? = some (.deferred (some []))) := by
      refine ⟨fun {W W' S} h u h1 h2 => ⟨(u.block _ (lt_of_block h.1) h1).trans h.1, (u.block _ (lt_of_block h.2) h2).trans h.2⟩, fun {W W' S} h u h1 h2 => ⟨(u.block _ (lt_of_block h.1) h1).trans h.1, (u.block _ (lt_of_block h.2) h2).trans h.2⟩, fun {W b t cs} h hb => ⟨fun e => ?_, fun e => ?_⟩, ?_⟩
      · subst e; unfold Blk at hb; rw [h.1] at hb; cases hb
      · subst e; unfold Blk at hb; rw [h.2] at hb; cases hb
      rintro x W hy ⟨hl, hd⟩
      have hyl := run_yield (P := P) (args := #[enc x]) hl rfl
      refine ⟨fn, _, assign, body, hyl, roundIn_of_wpIn (F := Fence.wide) (n := 3) hfn ?_⟩
      have hk : Kn N [] ((p, enc x) :: L) { tmps := (#[p].zip #[enc x]).foldl (fun t (p, v) => t.setIfInBounds p v) a.tmps, defers := [] } := by
        have h1 : Kn N [] L { a with defers := [] } := ⟨ha.size, rfl, ha.get⟩
        have h2 := h1.put (enc x) hp
        refine ⟨by simpa [Act.put] using h2.size, rfl, fun k v hv => ?_⟩
        have := h2.get k v hv
        simpa [Act.put] using this
      refine hassign (w.heap.size + 1) x W _ hy (fun δ L' W hs hu hy' => ⟨fun a' ha' => ?_⟩) _ hk
      replace hl := (hu.block _ (lt_of_block hl) (fun h => h)).trans hl
      replace hd := (hu.block _ (lt_of_block hd) (fun h => h)).trans hd
      have hlt := lt_of_block hl
      refine ⟨_, run_beginRound hl rfl, ?_⟩
      have hl2 : (W.putObj (w.heap.size + 1) (.loop { rec_ .ready none with state := .busy })).heap[w.heap.size + 1]? = some (.loop { rec_ .ready none with state := .busy }) := World.putObj_heap_same hlt
      have hd2 : (W.putObj (w.heap.size + 1) (.loop { rec_ .ready none with state := .busy })).heap[w.heap.size]? = some (.deferred (some [])) := (World.putObj_heap_other (by omega)).trans hd
      refine wpIn_mono (hbody (w.heap.size + 1) x δ _ (hYo' _ _ _ _ hy' ⟨_, hl⟩ (Upd.putObj _ _ _)) a' (ha'.sub hs)) ?_
      rintro e a3 W3 hp3
      cases e with
      | normal =>
        obtain ⟨hk3, hz⟩ := hp3
        have hl3 := hk3.same _ _ (by omega) hl2 rfl
        have hd3 := hk3.same _ _ (Nat.le_refl _) hd2 rfl
        exact ⟨_, _, run_endRound none hl3, .inl ⟨rfl, hZo _ _ _ hz ⟨_, hl3⟩ (Upd.putObj _ _ _), World.putObj_heap_same (lt_of_block hl3), (World.putObj_heap_other (by omega)).trans hd3⟩⟩
      | ret =>
        obtain ⟨hk3, hz⟩ := hp3
        have hl3 := hk3.same _ _ (by omega) hl2 rfl
        have hd3 := hk3.same _ _ (Nat.le_refl _) hd2 rfl
        exact ⟨_, _, run_endRound (some .ret) hl3, .inr ⟨rfl, hZfo _ _ _ hz ⟨_, hl3⟩ (Upd.putObj _ _ _), World.putObj_heap_same (lt_of_block hl3), (World.putObj_heap_other (by omega)).trans hd3⟩⟩
      | exit id => exact hp3.elim
      | goto t => exact hp3.elim
      | panic ch => exact hp3.elim
      | outgrown => exact hp3.elim
    have hc := hiter (w.heap.size + 1) w.heap.size _ _ _ rfl rfl hsz hE1 hH ⟨hL1, hD1⟩
    have e0 : (#[Value.func (.yield (w.heap.size + 1)) #[] #[]] ++ lb.toArray : Array Value) = (Value.func (.yield (w.heap.size + 1)) #[] #[] :: lb).toArray := by simp
    rw [e0]
    refine callsIn_wide.2 (Calls.mono hc ?_)
    rintro e W2 ⟨v, rfl, ⟨hE, hl, hd⟩ | ⟨hE, hl, hd⟩⟩
    · refine ⟨none, _, run_endLoop hl (by simp [rec_]), ?_⟩
      refine hdone w.heap.size _ (Nat.le_refl _) (hEo () _ _ hE ⟨_, hl⟩ (Upd.putObj _ _ _)) ((World.putObj_heap_other (by omega)).trans hd) _ ⟨ha.size, ?_, ha.get⟩
      simp [ha.defers, mark]
    · refine ⟨some .ret, _, run_endLoop hl (by simp [rec_]), wpIn_ret ?_⟩
      refine hleft w.heap.size _ (Nat.le_refl _) (hEfo () _ _ hE ⟨_, hl⟩ (Upd.putObj _ _ _)) ((World.putObj_heap_other (by omega)).trans hd) _ ⟨ha.size, ?_, ha.get⟩
      simp [ha.defers, mark]
end
end Go.Proofs.YtjdcpnaocjddoaaGreatDoor
