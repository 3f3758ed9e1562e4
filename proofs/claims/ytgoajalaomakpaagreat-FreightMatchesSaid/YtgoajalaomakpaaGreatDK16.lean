/-
  Part 16 of the proof: contracts and plain laws. Conditions: none.
-/
import Derived.Test.YtgoajalaomakpaaGreatDK15
namespace Go.Proofs.YtgoajalaomakpaaGreat
open Go Go.RowKit Go.Proofs.Tryz

def PtN (l : List Bid) (i k : Nat) : Prop := ∀ j, j < k → (nth l i).p ≠ (nth l j).p
theorem nodup_of {l : List Bid} (h : ∀ a, a < l.length → PtN l a a) : (l.map Bid.p).Nodup := by
  unfold List.Nodup
  rw [List.pairwise_map]
  refine List.pairwise_iff_getElem.2 fun i j hi hj hij => ?_
  have := h j hj i hij
  rw [nth_eq hi, nth_eq hj] at this
  exact fun e => this e.symm
theorem nodup_ne {l : List Bid} (h : (l.map Bid.p).Nodup) {i j : Nat} (hi : i < l.length) (hj : j < i) : (nth l i).p ≠ (nth l j).p := by
  unfold List.Nodup at h
  rw [List.pairwise_map] at h
  have := List.pairwise_iff_getElem.1 h j i (by omega) hi hj
  rw [nth_eq hi, nth_eq (by omega)]
  exact fun e => this e.symm
theorem BLt.trans {sg : Int} (hsg : sg = 1 ∨ sg = -1) (a b c : Bid) (h1 : BLt sg a b) (h2 : BLt sg b c) : BLt sg a c := by
  unfold BLt at *
  rw [cmpB_lt hsg] at *
  rcases hsg with rfl | rfl <;> omega
/-- The orders of the first ones that trade, in order. -/
structure OutB (l : List Bid) (sg p : Int) (i : Nat) (out : List Bid) : Prop where
  pw : out.Pairwise (BLt sg)
  mem : ∀ x, x ∈ out ↔ ∃ j, j < i ∧ nth l j = x ∧ trd sg x p = true
  len : out.length ≤ i
theorem OutB.skip {l out : List Bid} {sg p : Int} {i : Nat} (h : OutB l sg p i out) (hl : trd sg (nth l i) p = false) : OutB l sg p (i + 1) out :=
  ⟨h.pw, fun x => by
    rw [h.mem]
    constructor
    · rintro ⟨j, q1, q2⟩; exact ⟨j, by omega, q2⟩
    · rintro ⟨j, q1, q2, q3⟩
      rcases Nat.lt_succ_iff_lt_or_eq.1 q1 with q | rfl
      · exact ⟨j, q, q2, q3⟩
      · rw [← q2, hl] at q3; exact absurd q3 Bool.false_ne_true, Nat.le_succ_of_le h.len⟩
theorem OutB.put {l out : List Bid} {sg p : Int} {i k : Nat} (hsg : sg = 1 ∨ sg = -1) (h : OutB l sg p i out) (hn : (l.map Bid.p).Nodup) (hi : i < l.length) (hl : trd sg (nth l i) p = true) (hk : k ≤ out.length) (h1 : ¬ (0 < k ∧ BLt sg (nth l i) (nth out (k - 1)))) (h2 : ∀ j, k ≤ j → j < out.length → BLt sg (nth l i) (nth out j)) : OutB l sg p (i + 1) (out.take k ++ ([nth l i] ++ out.drop k)) := by
  have hne : ∀ y ∈ out, y.p ≠ (nth l i).p := fun y hy e => by
    obtain ⟨j, hj, rfl, _⟩ := (h.mem y).1 hy
    exact nodup_ne hn hi hj e.symm
  refine ⟨ins_pw (BLt.trans hsg) h.pw hk (fun q => cmpB_ne hsg (fun q2 => h1 ⟨q, q2⟩) (hne _ (nth_mem (by omega)))) h2, fun x => ?_, ?_⟩
  · rw [ins_mem, h.mem]
    constructor
    · rintro (⟨j, q1, q2⟩ | rfl)
      · exact ⟨j, by omega, q2⟩
      · exact ⟨i, by omega, rfl, hl⟩
    · rintro ⟨j, q1, q2, q3⟩
      rcases Nat.lt_succ_iff_lt_or_eq.1 q1 with q | rfl
      · exact .inl ⟨j, q, q2, q3⟩
      · exact .inr q2.symm
  · have := h.len
    simp only [List.length_append, List.length_take, List.length_drop, List.length_singleton]
    omega
theorem OutB.fin {l out : List Bid} {sg p : Int} (hsg : sg = 1 ∨ sg = -1) (h : OutB l sg p l.length out) (hn : (l.map Bid.p).Nodup) : out.Perm (l.filter fun x => trd sg x p) ∧ Asc (cmpB sg) out := by
  have e : ∀ x, x ∈ out ↔ x ∈ l.filter fun x => trd sg x p := fun x => by
    rw [h.mem, List.mem_filter]
    constructor
    · rintro ⟨j, q1, q2, q3⟩; exact ⟨by rw [← q2]; exact nth_mem q1, q3⟩
    · rintro ⟨q1, q2⟩
      obtain ⟨i, hi, rfl⟩ := List.getElem_of_mem q1
      exact ⟨i, hi, nth_eq hi, q2⟩
  have n1 : out.Nodup := h.pw.imp (fun q e => by rw [e] at q; exact BLt.asym hsg _ _ q q)
  have n2 : l.Nodup := by
    have := hn
    unfold List.Nodup at this ⊢
    rw [List.pairwise_map] at this
    exact this.imp (fun q e => q (by rw [e]))
  refine ⟨(List.perm_ext_iff_of_nodup n1 (n2.filter _)).2 e, fun i j hij hj q => ?_⟩
  have := List.pairwise_iff_getElem.1 h.pw i j (by omega) hj hij
  rw [nth_eq hj, nth_eq (by omega)] at q
  exact BLt.asym hsg _ _ this q
theorem rBid_c (x : Bid) (w0 : World) :
    CallsV Tryz.prog 50 [.agg #[.int .i64 x.p, .int .i64 x.n, .int .i64 x.r, .int .i64 x.m]] w0 (fun v w' => v = .bool (okBid x) ∧ Ext w0 w') := by
 refine f_n func50 ?_
 refine go ?_
 refine x_b fun bk2 w3 ebk2 sbk2 B4 u5 => ?_
 refine go ?_
 refine x_c func68 rfl rfl (rin_c x.p 0 99 _) ?_
 rintro _ w9 ⟨rfl, u10⟩ zu10
 refine go ?_
 refine t_splitp 6 rfl (fun g6 => ?_) (fun g6 => ?_)
 ·
  refine go ?_
  refine x_c func68 rfl rfl (rin_c x.n 1 1000000 _) ?_
  rintro _ w14 ⟨rfl, u15⟩ zu15
  refine go ?_
  refine t_splitp 11 rfl (fun g11 => ?_) (fun g11 => ?_)
  ·
   refine go ?_
   refine x_c func68 rfl rfl (rin_c x.r 0 1000000 _) ?_
   rintro _ w19 ⟨rfl, u20⟩ zu20
   refine go ?_
   refine t_splitp 16 rfl (fun g16 => ?_) (fun g16 => ?_)
   ·
    refine go ?_
    refine x_c func68 rfl rfl (rin_c x.m 0 100000 _) ?_
    rintro _ w24 ⟨rfl, u25⟩ zu25
    refine go ?_
    refine f_1 results50 ?_
    exact ⟨congrArg Value.bool (by rw [Bool.eq_iff_iff]; simp only [okBid, decide_eq_true_eq] <;> grind), u_d⟩
   refine go ?_
   refine f_1 results50 ?_
   exact ⟨congrArg Value.bool (by rw [Bool.eq_iff_iff]; simp only [okBid, decide_eq_true_eq] <;> grind), u_d⟩
  refine go ?_
  refine f_1 results50 ?_
  exact ⟨congrArg Value.bool (by rw [Bool.eq_iff_iff]; simp only [okBid, decide_eq_true_eq] <;> grind), u_d⟩
 refine go ?_
 refine f_1 results50 ?_
 exact ⟨congrArg Value.bool (by rw [Bool.eq_iff_iff]; simp only [okBid, decide_eq_true_eq] <;> grind), u_d⟩

theorem rtwice_c (l : List Bid) (al : Option Addr) (bl ol cl : Nat) (w0 : World) (hl : Sl encBid 4 w0 al bl ol l) (hll : l.length ≤ 1000) :
    CallsV Tryz.prog 51 [.slice al l.length cl] w0 (fun v w' => v = .bool (!decide (l.map Bid.p).Nodup) ∧ Ext w0 w') := by
 refine f_n func51 ?_
 refine go ?_
 refine x_l1 (fun _ => False) [0] (fun (i : Nat) => [(3, .int .i64 (i : Int))]) (fun i w => (i ≤ l.length) ∧ (∀ a, a < i → PtN l a a)) (fun i => l.length - i) 0 ⟨(Nat.zero_le _), (fun a h => absurd h (Nat.not_lt_zero a))⟩ ?_
 rintro i w5 ⟨hi, hN⟩ u6 zu6 K4 hK4
 refine go ?_
 refine q_p (fun g8 => ?_) fun g8 => ?_
 ·
  refine go ?_
  refine x_l1 (fun _ => False) [0, 3] (fun (j : Nat) => [(4, .int .i64 (j : Int))]) (fun j w => (j ≤ i) ∧ (PtN l i j)) (fun j => i - j) 0 ⟨(Nat.zero_le _), (fun a h => absurd h (Nat.not_lt_zero a))⟩ ?_
  rintro j w13 ⟨hj, hIn⟩ u14 zu14 K12 hK12
  refine go ?_
  refine q_p (fun g13 => ?_) fun g13 => ?_
  ·
   refine go ?_
   refine c_drawnM follows (fun _ => False) (OTl [0, 2, 4, 6, 8, 10, 12, 14, 16, 18, 20]) (by kernel_rfl) fun w20 u21 => ?_
   have zu21 := u21.size
   have E22 := Sc.mk ((((Upd.refl (fun _ => False) w0).nx u6).nx u14).nx u21)
   refine go ?_
   refine y_i i (hl.keep E22.u (fun _ h => h)) (fun _ => ?_)
   refine go ?_
   refine y_i j (hl.keep E22.u (fun _ h => h)) (fun _ => ?_)
   refine go ?_
   refine q_p (fun g26 => ?_) fun g26 => ?_
   ·
    refine go ?_
    refine f_1 results51 ?_
    exact ⟨congrArg Value.bool (by rw [decide_eq_false (fun q => nodup_ne q (i := i) (j := j) (by omega) (by omega) (by omega))]; rfl), u_d⟩
   refine go ?_
   exact hK12 (j + 1) ⟨(by omega), (fun a h => (Nat.lt_succ_iff_lt_or_eq.1 h).elim (hIn a) (fun e => by subst e; omega))⟩
  refine go ?_
  exact hK4 (i + 1) ⟨(by omega), (fun a h => (Nat.lt_succ_iff_lt_or_eq.1 h).elim (hN a) (fun e => by subst e; rw [show j = a by omega] at hIn; exact hIn))⟩
 refine go ?_
 refine f_1 results51 ?_
 exact ⟨congrArg Value.bool (by rw [decide_eq_true (nodup_of (fun a ha => hN a (by omega)))]; rfl), u_d⟩

theorem rDemand_c (l : List Bid) (al : Option Addr) (bl ol cl : Nat) (p : Int) (w0 : World) (hl : Sl encBid 4 w0 al bl ol l) (hll : l.length ≤ 1000) (hok : ∀ x ∈ l, okBid x = true) :
    CallsV Tryz.prog 52 [.slice al l.length cl, .int .i64 p] w0 (fun v w' => v = .int .i64 (tonK (-1) p l l.length) ∧ Ext w0 w') := by
 refine f_n func52 ?_
 refine go ?_
 refine x_l1 (fun _ => False) [0, 1] (fun (k : Nat) => [(5, .int .i64 (tonK (-1) p l k)), (6, .int .i64 (k : Int))]) (fun k w => (k ≤ l.length)) (fun k => l.length - k) 0 (Nat.zero_le _) ?_
 rintro k w6 hk u7 zu7 K5 hK5
 have E8 := Sc.mk ((Upd.refl (fun _ => False) w0).nx u7)
 refine go ?_
 refine q_p (fun g10 => ?_) fun g10 => ?_
 ·
  refine go ?_
  refine g_i k (hl.keep E8.u (fun _ h => h)) (fun _ => ?_)
  refine go ?_
  refine q_p (fun g19 => ?_) fun g19 => ?_
  ·
   refine go ?_
   refine g_i k (hl.keep E8.u (fun _ h => h)) (fun _ => ?_)
   refine go ?_
   have hb := tonK_bd (sg := (-1)) (p := p) hok (k := k) (by omega)
   have hb2 := (okBid_ok (hok _ (nth_mem (xs := l) (i := k) (by omega)))).2.1
   refine go ?_
   exact hK5 (k + 1) (by omega) (hs := by exact ⟨(congrArg (fun z => some (Value.int .i64 z)) (by first | (rw [tonK, if_pos (by unfold trd; rw [decide_eq_true_eq]; omega)]) | (rw [tonK, if_neg (by unfold trd; rw [decide_eq_true_eq]; omega)]))), rfl, rfl, rfl, trivial⟩)
  refine go ?_
  exact hK5 (k + 1) (by omega) (hs := by exact ⟨(congrArg (fun z => some (Value.int .i64 z)) (by first | (rw [tonK, if_pos (by unfold trd; rw [decide_eq_true_eq]; omega)]) | (rw [tonK, if_neg (by unfold trd; rw [decide_eq_true_eq]; omega)]))), rfl, rfl, rfl, trivial⟩)
 refine go ?_
 refine f_1 results52 ?_
 obtain rfl : k = l.length := by omega
 exact ⟨rfl, u_d⟩

theorem rSupply_c (l : List Bid) (al : Option Addr) (bl ol cl : Nat) (p : Int) (w0 : World) (hl : Sl encBid 4 w0 al bl ol l) (hll : l.length ≤ 1000) (hok : ∀ x ∈ l, okBid x = true) :
    CallsV Tryz.prog 53 [.slice al l.length cl, .int .i64 p] w0 (fun v w' => v = .int .i64 (tonK 1 p l l.length) ∧ Ext w0 w') := by
 refine f_n func53 ?_
 refine go ?_
 refine x_l1 (fun _ => False) [0, 1] (fun (k : Nat) => [(5, .int .i64 (tonK 1 p l k)), (6, .int .i64 (k : Int))]) (fun k w => (k ≤ l.length)) (fun k => l.length - k) 0 (Nat.zero_le _) ?_
 rintro k w6 hk u7 zu7 K5 hK5
 have E8 := Sc.mk ((Upd.refl (fun _ => False) w0).nx u7)
 refine go ?_
 refine q_p (fun g10 => ?_) fun g10 => ?_
 ·
  refine go ?_
  refine g_i k (hl.keep E8.u (fun _ h => h)) (fun _ => ?_)
  refine go ?_
  refine q_p (fun g19 => ?_) fun g19 => ?_
  ·
   refine go ?_
   refine g_i k (hl.keep E8.u (fun _ h => h)) (fun _ => ?_)
   refine go ?_
   have hb := tonK_bd (sg := 1) (p := p) hok (k := k) (by omega)
   have hb2 := (okBid_ok (hok _ (nth_mem (xs := l) (i := k) (by omega)))).2.1
   refine go ?_
   exact hK5 (k + 1) (by omega) (hs := by exact ⟨(congrArg (fun z => some (Value.int .i64 z)) (by first | (rw [tonK, if_pos (by unfold trd; rw [decide_eq_true_eq]; omega)]) | (rw [tonK, if_neg (by unfold trd; rw [decide_eq_true_eq]; omega)]))), rfl, rfl, rfl, trivial⟩)
  refine go ?_
  exact hK5 (k + 1) (by omega) (hs := by exact ⟨(congrArg (fun z => some (Value.int .i64 z)) (by first | (rw [tonK, if_pos (by unfold trd; rw [decide_eq_true_eq]; omega)]) | (rw [tonK, if_neg (by unfold trd; rw [decide_eq_true_eq]; omega)]))), rfl, rfl, rfl, trivial⟩)
 refine go ?_
 refine f_1 results53 ?_
 obtain rfl : k = l.length := by omega
 exact ⟨rfl, u_d⟩

theorem rbetter_c (x y : Bid) (sg : Int) (w0 : World) (hsg : sg = 1 ∨ sg = -1) (hx : 0 ≤ x.r ∧ x.r ≤ 1000000) (hy : 0 ≤ y.r ∧ y.r ≤ 1000000) :
    CallsV Tryz.prog 97 [.agg #[.int .i64 x.p, .int .i64 x.n, .int .i64 x.r, .int .i64 x.m], .agg #[.int .i64 y.p, .int .i64 y.n, .int .i64 y.r, .int .i64 y.m], .int .i64 sg] w0 (fun v w' => v = .bool (decide (BLt sg x y)) ∧ Ext w0 w') := by
 refine f_n func97 ?_
 refine go ?_
 refine x_b fun bk2 w3 ebk2 sbk2 B4 u5 => ?_
 refine x_b fun bk7 w8 ebk7 sbk7 B9 u10 => ?_
 refine go ?_
 refine q_p (fun g11 => ?_) fun g11 => ?_
 ·
  refine go ?_
  refine t_ari rfl rfl rfl rfl rfl (by rcases hsg with h | h <;> rw [h] <;> omega) ?_
  refine go ?_
  refine t_ari rfl rfl rfl rfl rfl (by rcases hsg with h | h <;> rw [h] <;> omega) ?_
  refine go ?_
  refine f_1 results97 ?_
  exact ⟨congrArg Value.bool (by rw [Bool.eq_iff_iff]; simp only [BLt, cmpB_lt hsg, decide_eq_true_eq]; rcases hsg with rfl | rfl <;> omega), u_d⟩
 refine go ?_
 refine q_p (fun g25 => ?_) fun g25 => ?_
 ·
  refine go ?_
  refine f_1 results97 ?_
  exact ⟨congrArg Value.bool (by rw [Bool.eq_iff_iff]; simp only [BLt, cmpB_lt hsg, decide_eq_true_eq]; rcases hsg with rfl | rfl <;> omega), u_d⟩
 refine go ?_
 refine f_1 results97 ?_
 exact ⟨congrArg Value.bool (by rw [Bool.eq_iff_iff]; simp only [BLt, cmpB_lt hsg, decide_eq_true_eq]; rcases hsg with rfl | rfl <;> omega), u_d⟩

set_option maxHeartbeats 4000000 in
theorem rsorted_c (l : List Bid) (al : Option Addr) (bl ol cl : Nat) (p sg : Int) (w0 : World) (hl : Sl encBid 4 w0 al bl ol l) (hll : l.length ≤ 1000) (hsg : sg = 1 ∨ sg = -1) (hp : 0 ≤ p ∧ p ≤ 1000000) (hok : ∀ x ∈ l, okBid x = true) (hn : (l.map Bid.p).Nodup) (hpos : 0 < w0.heap.size) :
    CallsV Tryz.prog 55 [.slice al l.length cl, .int .i64 p, .int .i64 sg] w0 (fun v w' => (∃ out ao g cp, v = .slice ao (List.length out) cp ∧ Acc encBid 4 30 w0.heap.size w' ao g cp out ∧ out.Perm (l.filter fun x => trd sg x p) ∧ Asc (cmpB sg) out) ∧ Ext w0 w') := by
 refine f_n func55 ?_
 refine go ?_
 refine x_l fun bk3 w4 ebk3 sbk3 B5 u6 => ?_
 refine go ?_
 refine x_l5 (fun i => bk3 ≤ i) [0, 1, 2] (fun (i : Nat) (ao : Option Addr) (gw : Nat) (co : Nat) (out : List Bid) => [(7, .slice ao out.length co), (8, .int .i64 (i : Int))]) (fun i ao gw co out w => (i ≤ l.length) ∧ (Acc encBid 4 30 bk3 w ao gw co out) ∧ (OutB l sg p i out)) (fun i ao gw co out => l.length - i) 0 (some ⟨bk3, 0, none⟩) bk3 0 ([]) ⟨(Nat.zero_le _), (Acc.ofRaw (cs := []) B5 (Nat.le_refl _) (Nat.le_refl _) (Nat.zero_le _) (by rfl) (by rfl)), ⟨List.Pairwise.nil, fun x => ⟨fun h => (by cases h), fun ⟨j, h, _⟩ => absurd h (Nat.not_lt_zero j)⟩, Nat.le_refl _⟩⟩ ?_
 rintro i ao gw co out w11 ⟨hi, hout, hO⟩ u12 zu12 K10 hK10
 have E13 := Sc.mk (((Upd.refl (fun _ => False) w0).nx u6).next u12 (fun i hi (h : bk3 ≤ i) => show False by first | omega | assumption))
 have lt_gw := hout.lt
 have hol := hO.len
 have hco := hout.cap_le
 have homem : ∀ y ∈ out, okBid y = true := fun y hy => by obtain ⟨j, hj, e, _⟩ := (hO.mem y).1 hy; rw [← e]; exact hok _ (nth_mem (by omega))
 refine go ?_
 refine q_p (fun g14 => ?_) fun g14 => ?_
 ·
  have hbl := hl.lt (show 0 < l.length by omega)
  have hx9 := okBid_ok (hok _ (nth_mem (xs := l) (i := i) (by omega)))
  refine go ?_
  refine g_i i (hl.keep E13.u (fun _ h => h)) (fun _ => ?_)
  refine go ?_
  refine t_ari rfl rfl rfl rfl rfl (by rcases hsg with h | h <;> rw [h] <;> omega) ?_
  refine go ?_
  refine t_ari rfl rfl rfl rfl rfl (by rcases hsg with h | h <;> rw [h] <;> omega) ?_
  refine go ?_
  refine q_p (fun g27 => ?_) fun g27 => ?_
  ·
   refine go ?_
   exact hK10 (i + 1) ao gw co out ⟨(by omega), hout, (hO.skip (by unfold trd; rw [decide_eq_false_iff_not]; omega))⟩ (hu := u12)
  refine go ?_
  refine x_l1 (fun _ => False) [0, 1, 2, 7, 8] (fun (k2 : Nat) => [(9, .int .i64 (k2 : Int))]) (fun k2 w => (k2 ≤ out.length) ∧ (∀ j, k2 ≤ j → j < out.length → BLt sg (nth l i) (nth out j))) (fun k2 => k2) out.length ⟨(Nat.le_refl _), (fun j h1 h2 => absurd h2 (by omega))⟩ ?_
  rintro k2 w23 ⟨hk2, hab⟩ u24 zu24 K22 hK22
  have E25 := Sc.mk (E13.u.nx u24)
  refine st1 ?_
  refine x_k1 (fun _ => False) [0, 1, 2, 7, 8, 9] (fun (q : Bool) => [(44, .bool q)]) (fun q w => (q = true ↔ (0 < k2 ∧ BLt sg (nth l i) (nth out (k2 - 1))))) (fun K31 hK31 => ?_) ?_
  ·
   refine c_drawnM follows (fun _ => False) (OTl [0, 2, 4, 6, 8, 10, 12, 14, 16, 18, 20, 22, 24, 27, 28]) (by kernel_rfl) fun w34 u35 => ?_
   have zu35 := u35.size
   refine go ?_
   refine y_splitp 32 rfl (fun g32 => ?_) (fun g32 => ?_)
   ·
    refine go ?_
    refine y_i i (hl.keep (E25.u.nx u35) (fun _ h => h)) (fun _ => ?_)
    refine go ?_
    have D38 := ((hout.keep u24 (fun _ h => h)).keep u35 (fun _ h => h))
    refine y_i (k2 - 1) (D38.sl (fun _ => rfl)) (fun _ => ?_) (hj := (by omega))
    refine go ?_
    refine x_c func97 rfl rfl (rbetter_c (nth l i) (nth out (k2 - 1)) sg _ hsg hx9.2.2.1 (okBid_ok (homem _ (nth_mem (by omega)))).2.2.1) ?_
    rintro _ w41 ⟨rfl, u42⟩ zu42
    refine go ?_
    exact hK31 (decide (BLt sg (nth l i) (nth out (k2 - 1)))) (by rw [decide_eq_true_eq]; exact ⟨fun h => ⟨by omega, h⟩, fun h => h.2⟩)
   refine go ?_
   exact hK31 false (⟨fun h => (by cases h), fun h => absurd h (by omega)⟩)
  rintro q w32 hq u33 zu33
  refine q_b (fun g44 => ?_) fun g44 => ?_
  ·
   refine go ?_
   exact hK22 (k2 - 1) ⟨(by omega), (fun j h1 h2 => by
     by_cases h : j = k2 - 1
     · rw [h]; exact (hq.1 g44).2
     · exact hab j (by omega) h2)⟩ (hm := (by have := (hq.1 g44).1; omega)) (hs := by exact ⟨(congrArg (fun z => some (Value.int .i64 z)) (by have := (hq.1 g44).1; omega)), rfl, rfl, rfl, rfl, rfl, trivial⟩)
  have hex : ¬ (0 < k2 ∧ BLt sg (nth l i) (nth out (k2 - 1))) := fun h => by rw [hq.2 h] at g44; cases g44
  refine go ?_
  refine c_drawnM follows (fun i => (i = gw ∧ bk3 ≤ i)) (OTl [0, 2, 4, 6, 8, 10, 12, 16, 18, 20, 15, 23, 25, 26]) (by kernel_rfl) fun w46 u47 => ?_
  have zu47 := u47.size
  refine go ?_
  refine y_sliceTo (k2) underlying22 sizeOf30 rfl rfl rfl rfl rfl (by omega) (y_same 49 (v := .slice ao ((out.take k2).length) co) rfl (by rw [hout.subTo0, List.length_take, Nat.min_eq_left (by omega)]) ?_)
  refine go ?_
  refine y_i i (hl.keep ((E25.u.nx u33).nx u47) (fun _ h => h)) (fun _ => ?_)
  refine go ?_
  refine y_sliceFrom (n := out.length) (cap := co) (ao := ao) (k2) underlying22 sizeOf30 rfl rfl rfl rfl rfl (by omega) (by omega) (y_same 57 (v := .slice (subAddr ao co k2 4) ((out.drop k2).length) (co - k2)) rfl (by rw [List.length_drop]) ?_)
  refine go ?_
  refine x_l fun bk50 w51 ebk50 sbk50 B52 u53 => ?_
  refine go ?_
  have D55 := ((((hout.keep u24 (fun _ h => h)).keep u33 (fun _ h => h)).keep u47 (fun _ h => h)).keep u53 (fun _ h => h))
  refine t_appLit (enc := encBid) (z := .agg #[.int .i64 0, .int .i64 0, .int .i64 0, .int .i64 0]) (bytes := 32) (k := 4) (xs := [(nth l i)]) (ys := (out.drop k2)) underlying22 (by kernel_rfl) rfl (by decide) (fun _ => rfl) (by intro x; simp [encBid, Value.oneCell']) rfl rfl rfl rfl B52 (Sl.dropI (D55.sl (fun _ => rfl)) (by omega)) (by first | decide | simp) (by rw [List.length_drop]; omega) (by decide) (fun ao56 gb57 cp58 w59 A60 u61 gegb57 => ?_)
  have zu61 := u61.size
  have lt_gb57 := A60.lt
  refine go ?_
  have D63 := (D55.keep u61 (fun hb => show ¬ ((gw = bk50 ∧ bk50 ≤ gw)) by first | omega | assumption))
  refine t_appendAll (enc := encBid) (z := .agg #[.int .i64 0, .int .i64 0, .int .i64 0, .int .i64 0]) (bytes := 32) (k := 4) (base := bk3) (xs := (out.take k2)) (ys := ([(nth l i)] ++ (out.drop k2))) underlying22 (by kernel_rfl) rfl (by decide) (fun _ => rfl) (by intro x; simp [encBid, Value.oneCell']) rfl rfl rfl rfl (Acc.takeN (enc := encBid) (k := 4) (fun _ => rfl) D63 k2) (A60.sl (fun _ => rfl)) (by omega) (by rw [List.length_take]; omega) (by rw [List.length_append, List.length_drop, List.length_singleton]; omega) (by decide) (fun ao64 gb65 cp66 w67 A68 u69 gegb65 lngb65 => ?_)
  have zu69 := u69.size
  have lt_gb65 := A68.lt
  refine go ?_
  exact hK10 (i + 1) ao64 gb65 cp66 ((out.take k2) ++ ([(nth l i)] ++ (out.drop k2))) ⟨(by omega), A68, (hO.put hsg hn (by omega) (by unfold trd; rw [decide_eq_true_eq]; omega) (by omega) hex hab)⟩ (hu := ((((((u12.nx u24).nx u33).nx u47).nx u53).next u61 (fun i hi (h : (i = bk50 ∧ bk50 ≤ i)) => show bk3 ≤ i by first | omega | assumption)).next u69 (fun i hi (h : (i = gw ∧ bk3 ≤ i)) => show bk3 ≤ i by first | omega | assumption)))
 refine go ?_
 refine f_1 results55 ?_
 obtain rfl : i = l.length := by omega
 obtain ⟨g9, ha9⟩ := Acc.lower (base' := w0.heap.size) hout (by omega) hpos
 obtain ⟨f1, f2⟩ := hO.fin hsg hn
 exact ⟨⟨out, ao, g9, co, rfl, ha9, f1, f2⟩, u_d⟩

end Go.Proofs.YtgoajalaomakpaaGreat
