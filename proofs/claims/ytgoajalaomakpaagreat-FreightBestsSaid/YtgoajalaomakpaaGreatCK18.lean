/-
  Part 18 of the proof: contracts and plain laws. Conditions: none.
-/
import Derived.Test.YtgoajalaomakpaaGreatCK17
namespace Go.Proofs.YtgoajalaomakpaaGreat
open Go Go.RowKit Go.Proofs.Tryz

def W2 (l : List Off) : Int := if 12 < l.length then 5 else if (l.any fun x => !okOff x) = true then 2 else 0
theorem W2_0 {l : List Off} (h1 : ¬ 12 < l.length) (h2 : ∀ j, j < l.length → okOff (nth l j) = true) : W2 l = 0 := by
  unfold W2
  rw [if_neg h1, if_neg]
  intro q
  obtain ⟨x, hx, e⟩ := List.any_eq_true.1 q
  obtain ⟨i, hi, rfl⟩ := List.getElem_of_mem hx
  have := h2 i hi
  rw [nth_eq hi] at this
  simp [this] at e
theorem W2_5 {l : List Off} (h : 12 < l.length) : W2 l = 5 := if_pos h
theorem W2_2 {l : List Off} {k : Nat} (h1 : ¬ 12 < l.length) (hk : k < l.length) (h2 : ¬ okOff (nth l k) = true) : W2 l = 2 := by
  unfold W2
  rw [if_neg h1, if_pos (List.any_eq_true.2 ⟨_, nth_mem hk, by simpa using h2⟩)]
theorem bestE_eq (l : List Off) (h : Hul) : bestE l h = if W2 l ≠ 0 then W2 l else if okHul h then 0 else 3 := by
  unfold bestE W2
  by_cases q1 : 12 < l.length
  · simp [q1]
  · by_cases q2 : (l.any fun x => !okOff x) = true
    · simp only [if_neg q1, if_pos q2]; rfl
    · simp only [if_neg q1, if_neg q2]
      by_cases q3 : okHul h
      · simp [q3]
      · simp [q3]
theorem bestE_0 {l : List Off} {h : Hul} (e : bestE l h = 0) : l.length ≤ 12 ∧ (∀ x ∈ l, okOff x = true) ∧ okHul h := by
  unfold bestE at e
  split at e
  · omega
  · split at e
    · omega
    · split at e
      · omega
      · rename_i h1 h2 h3
        refine ⟨by omega, fun x hx => ?_, Classical.byContradiction h3⟩
        cases q : okOff x
        · exact absurd (List.any_eq_true.2 ⟨x, hx, by simp [q]⟩) h2
        · rfl
theorem eqIn41 (n : Nat) (a0 : Int) (a1 : Int) (a2 : Int) (a3 : Int) (a4 : Int) (b0 : Int) (b1 : Int) (b2 : Int) (b3 : Int) (b4 : Int) (w : World) : (Op.equalIn (n + 2) 41 (.agg #[.int .i64 a0, .int .i64 a1, .int .i64 a2, .int .i64 a3, .int .i64 a4]) (.agg #[.int .i64 b0, .int .i64 b1, .int .i64 b2, .int .i64 b3, .int .i64 b4])).run Tryz.prog w = .ok (decide (a0 = b0) && decide (a1 = b1) && decide (a2 = b2) && decide (a3 = b3) && decide (a4 = b4)) w := by
  have hS : Tryz.prog.underlying 41 = some (.struct (Tryz.prog.fieldsOf 41)) := by kernel_rfl
  have hp : Tryz.prog.stoodInHeld 41 = false := by kernel_rfl
  have p0 : ∀ (a0 : Int) (a1 : Int) (a2 : Int) (a3 : Int) (a4 : Int), (part 3 #[.int .i64 a0, .int .i64 a1, .int .i64 a2, .int .i64 a3, .int .i64 a4] 0).run Tryz.prog w = .ok (.int .i64 a0) w := fun _ _ _ _ _ => by simp [part, isAgg3]
  have p1 : ∀ (a0 : Int) (a1 : Int) (a2 : Int) (a3 : Int) (a4 : Int), (part 3 #[.int .i64 a0, .int .i64 a1, .int .i64 a2, .int .i64 a3, .int .i64 a4] 1).run Tryz.prog w = .ok (.int .i64 a1) w := fun _ _ _ _ _ => by simp [part, isAgg3]
  have p2 : ∀ (a0 : Int) (a1 : Int) (a2 : Int) (a3 : Int) (a4 : Int), (part 3 #[.int .i64 a0, .int .i64 a1, .int .i64 a2, .int .i64 a3, .int .i64 a4] 2).run Tryz.prog w = .ok (.int .i64 a2) w := fun _ _ _ _ _ => by simp [part, isAgg3]
  have p3 : ∀ (a0 : Int) (a1 : Int) (a2 : Int) (a3 : Int) (a4 : Int), (part 3 #[.int .i64 a0, .int .i64 a1, .int .i64 a2, .int .i64 a3, .int .i64 a4] 3).run Tryz.prog w = .ok (.int .i64 a3) w := fun _ _ _ _ _ => by simp [part, isAgg3]
  have p4 : ∀ (a0 : Int) (a1 : Int) (a2 : Int) (a3 : Int) (a4 : Int), (part 3 #[.int .i64 a0, .int .i64 a1, .int .i64 a2, .int .i64 a3, .int .i64 a4] 4).run Tryz.prog w = .ok (.int .i64 a4) w := fun _ _ _ _ _ => by simp [part, isAgg3]
  have e3 := fun a b w => equal_i64 underlying3 (n + 0) a b w
  rw [run_equalIn_struct w (n + 1) 41 _ _ hS hp]
  simp only [Program.fieldsOf, underlying41]
  simp only [Op.eqFields, Sem.run_bind, Sem.run_ite, p0, p1, p2, p3, p4, e3, Result.andThen_ok]
  by_cases h0 : a0 = b0 <;> by_cases h1 : a1 = b1 <;> by_cases h2 : a2 = b2 <;> by_cases h3 : a3 = b3 <;> by_cases h4 : a4 = b4 <;> simp [h0, h1, h2, h3, h4]

set_option maxHeartbeats 4000000 in
theorem FreightBests_c (l : List Off) (al : Option Addr) (bl ol cl : Nat) (h : Hul) (w0 : World) (hl : Sl encOff 5 w0 al bl ol l) (_hll : l.length ≤ maxLen) :
    CallsV Tryz.prog 4 [.slice al l.length cl, .agg #[.int .i64 h.p, .int .i64 h.m, .int .i64 h.s, .int .i64 h.c]] w0 (fun v w' => v = .bool true ∧ Ext w0 w') := by
 refine f_n func4 ?_
 refine go ?_
 refine x_b fun bk2 w3 ebk2 sbk2 B4 u5 => ?_
 have E6 := Sc.mk ((Upd.refl (fun _ => False) w0).nx u5)
 refine go ?_
 refine t_splitp 18 rfl (fun g18 => ?_) (fun g18 => ?_)
 ·
  refine go ?_
  refine t_splitp 23 rfl (fun g23 => ?_) (fun g23 => ?_)
  ·
   refine go ?_
   refine x_c func11 rfl rfl (known_c _ (by omega)) ?_
   rintro _ w11 ⟨rfl, u12⟩ zu12
   refine go ?_
   refine f_1 results4 ?_
   exact ⟨rfl, u_d⟩
  refine go ?_
  refine q_p (fun g27 => ?_) fun g27 => ?_
  ·
   have hp9 := hl.lt (by omega)
   refine go ?_
   refine x_c func11 rfl rfl (known_c _ (by omega)) ?_
   rintro _ w17 ⟨rfl, u18⟩ zu18
   refine go ?_
   refine f_1 results4 ?_
   exact ⟨rfl, u_d⟩
  have hl15 : l.length ≤ 15 := by omega
  refine go ?_
  refine x_c func15 rfl rfl (offers0_c l al bl ol cl _ (hl.keep E6.u (fun _ h => h)) (by omega)) ?_
  rintro _ w24 ⟨⟨aoP22, gP22, cP22, rfl, hP22, hgP22, hzP22⟩, u25⟩ zu25
  have hlP22 := hP22.lt
  refine go ?_
  refine t_indexArr (j := 0) (0) underlying35 sizeOf3 rfl rfl rfl rfl rfl (by decide) rfl ?_
  refine go ?_
  refine t_indexArr (j := 1) (1) underlying35 sizeOf3 rfl rfl rfl rfl rfl (by decide) rfl ?_
  refine go ?_
  refine t_indexArr (j := 2) (2) underlying35 sizeOf3 rfl rfl rfl rfl rfl (by decide) rfl ?_
  refine go ?_
  refine t_indexArr (j := 3) (3) underlying35 sizeOf3 rfl rfl rfl rfl rfl (by decide) rfl ?_
  refine go ?_
  refine x_c func16 rfl rfl (Best_c l aoP22 gP22 0 cP22 (⟨h.p, h.m, h.s, h.c⟩ : Hul) _ hP22 (by omega) (by omega)) ?_
  rintro _ w30 ⟨⟨rB, eB, aB, gB, oB, cB, rfl, hAB, hEB, hRB⟩, u31⟩ zu31
  have hEq : eB = bestE l h := hEB
  refine go ?_
  refine x_l1 (fun _ => False) [0, 3, 5, 6, 7, 8] (fun (k : Nat) => [(9, .int .i64 (k : Int))]) (fun k w => (k ≤ l.length)) (fun k => l.length - k) 0 (Nat.zero_le _) ?_
  rintro k w37 hk u38 zu38 K36 hK36
  have E39 := Sc.mk (((E6.u.nx u25).nx u31).nx u38)
  refine go ?_
  refine q_p (fun g48 => ?_) fun g48 => ?_
  ·
   refine go ?_
   refine c_drawnM follows (fun _ => False) (OTl [0, 2, 4, 6, 8, 10, 12, 14, 16]) (by kernel_rfl) fun w44 u45 => ?_
   have zu45 := u45.size
   refine go ?_
   have D47 := (((hP22.keep u31 (fun _ h => h)).keep u38 (fun _ h => h)).keep u45 (fun _ h => h))
   refine y_i k D47 (fun _ => ?_)
   refine go ?_
   refine y_i k (hl.keep (E39.u.nx u45) (fun _ h => h)) (fun _ => ?_)
   refine go ?_
   refine y_neS (xs := [.int .i64 ((nth l k).f), .int .i64 ((nth l k).t), .int .i64 ((nth l k).b), .int .i64 ((nth l k).e), .int .i64 ((nth l k).p)]) (ys := [.int .i64 ((nth l k).f), .int .i64 ((nth l k).t), .int .i64 ((nth l k).b), .int .i64 ((nth l k).e), .int .i64 ((nth l k).p)]) (by kernel_rfl) (eqIn41 9998 ((nth l k).f) ((nth l k).t) ((nth l k).b) ((nth l k).e) ((nth l k).p) ((nth l k).f) ((nth l k).t) ((nth l k).b) ((nth l k).e) ((nth l k).p)) rfl rfl rfl rfl (y_samehd (v := .bool false) (by simp) ?_)
   refine go ?_
   exact hK36 (k + 1) (by omega)
  iterate 11 refine st1 ?_
  refine x_k1 (fun _ => False) [0, 3, 6, 7, 8] (fun (w1 : Int) => [(10, .int .i64 w1)]) (fun w1 w => ((12 < l.length → w1 = 5) ∧ (¬ 12 < l.length → w1 = 0))) (fun K55 hK55 => ?_) ?_
  ·
   refine go ?_
   refine q_p (fun g62 => ?_) fun g62 => ?_
   ·
    refine go ?_
    exact hK55 5 (by omega)
   refine go ?_
   exact hK55 0 (by omega)
  rintro w1 w56 hw1 u57 zu57
  have E59 := Sc.mk (E39.u.nx u57)
  refine x_k1 (fun _ => False) [0, 3, 6, 7, 8] (fun (w2 : Int) => [(10, .int .i64 w2)]) (fun w2 w => (w2 = W2 l)) (fun K64 hK64 => ?_) ?_
  ·
   refine go ?_
   refine x_l2 (fun _ => False) [0, 3, 6, 7, 8] (fun (j : Nat) (v4 : Int) => [(10, .int .i64 v4), (11, .int .i64 (j : Int))]) (fun j v4 w => (j ≤ l.length) ∧ (v4 ≠ 0 → v4 = W2 l) ∧ (v4 = 0 → ¬ 12 < l.length ∧ ∀ j9, j9 < j → okOff (nth l j9) = true)) (fun j v4 => l.length - j) 0 w1 ⟨(Nat.zero_le _), (fun q => (hw1.1 (by omega)).trans (W2_5 (by omega)).symm), (fun q => ⟨by omega, fun j9 hj9 => absurd hj9 (Nat.not_lt_zero j9)⟩)⟩ ?_
   rintro j v4 w69 ⟨hj, hwa, hwb⟩ u70 zu70 K68 hK68
   refine st1 ?_
   refine x_k1 (fun _ => False) [0, 3, 6, 7, 8, 10, 11] (fun (q14 : Bool) => [(70, .bool q14)]) (fun q14 w => (q14 = true ↔ (j < l.length ∧ v4 = 0))) (fun K77 hK77 => ?_) ?_
   ·
    refine go ?_
    refine t_splitp 67 rfl (fun g67 => ?_) (fun g67 => ?_)
    ·
     refine go ?_
     exact hK77 (decide (v4 = 0)) (by rw [decide_eq_true_eq]; omega)
    refine go ?_
    exact hK77 false (⟨fun h => (by cases h), fun h => absurd h (by omega)⟩)
   rintro q14 w78 hq14 u79 zu79
   refine q_b (fun g70 => ?_) fun g70 => ?_
   ·
    have hq9 := hq14.1 g70
    refine go ?_
    refine g_i j (hl.keep ((E59.u.nx u70).nx u79) (fun _ h => h)) (fun _ => ?_)
    refine go ?_
    refine x_c func17 rfl rfl (rOffer_c (nth l j) _) ?_
    rintro _ w85 ⟨rfl, u86⟩ zu86
    refine go ?_
    refine q_b (fun g78 => ?_) fun g78 => ?_
    ·
     refine go ?_
     exact hK68 (j + 1) 2 ⟨(by omega), (fun _ => (W2_2 (k := j) (hwb (by omega)).1 (by omega) (by simpa using g78)).symm), (fun q => by omega)⟩
    refine go ?_
    exact hK68 (j + 1) v4 ⟨(by omega), hwa, (fun q => ⟨(hwb q).1, fun j9 hj9 => (Nat.lt_succ_iff_lt_or_eq.1 hj9).elim ((hwb q).2 j9) (fun e => by subst e; simpa using g78)⟩)⟩
   have hq9 : ¬ (j < l.length ∧ v4 = 0) := fun q => by rw [hq14.2 q] at g70; cases g70
   refine go ?_
   exact hK64 v4 (by
     by_cases q9 : v4 = 0
     · rw [W2_0 (hwb q9).1 (fun j9 hj9 => (hwb q9).2 j9 (by omega))]; exact q9
     · exact hwa q9)
  rintro w2 w65 hw2 u66 zu66
  refine go ?_
  refine t_build (ps := [(0, .int .i64 100000), (1, .int .i64 100000), (2, .int .i64 1000), (3, .int .i64 100000)]) (v := .agg #[.int .i64 100000, .int .i64 100000, .int .i64 1000, .int .i64 100000]) rfl rfl ⟨rfl, rfl⟩ (fun w => by kernel_rfl) ?_
  refine x_n fun bk91 w92 ebk91 sbk91 B93 u94 => ?_
  refine x_s fun w96 sw96 B98 u97 => ?_
  iterate 2 refine st1 ?_
  refine x_k1 (fun _ => False) [0, 3, 6, 7, 8] (fun (w3 : Int) => [(10, .int .i64 w3)]) (fun w3 w => (w3 = bestE l h)) (fun K104 hK104 => ?_) ?_
  ·
   refine go ?_
   refine c_rounds 5 (WR.weak [(0, .slice al l.length cl), (3, .pointer (some ⟨bk2, 0, none⟩)), (6, .slice aB (List.length rB.s) cB), (7, .int .i64 rB.g), (8, .int .i64 eB), (10, .int .i64 w2), (12, .pointer (some ⟨bk91, 0, none⟩)), (13, .int .i64 0)] ⟨rfl, rfl, rfl, rfl, rfl, rfl, rfl, rfl, trivial⟩ (r_round fun K108 hK108 => (q_of ?_)))
   refine go ?_
   refine q_p (fun g85 => ?_) fun g85 => ?_
   ·
    refine go ?_
    refine c_drawnM follows (fun _ => False) (OTl [0, 2, 4, 6, 8, 10, 12, 14, 16, 18, 20, 22, 24]) (by kernel_rfl) fun w113 u114 => ?_
    have zu114 := u114.size
    refine go ?_
    refine y_indexArr (j := 0) (0) underlying35 sizeOf3 rfl rfl rfl rfl rfl (by decide) rfl ?_
    refine go ?_
    refine y_splitp 92 rfl (fun g92 => ?_) (fun g92 => ?_)
    ·
     refine go ?_
     refine hK108 _ _ (WR.weak [(0, .slice al l.length cl), (3, .pointer (some ⟨bk2, 0, none⟩)), (6, .slice aB (List.length rB.s) cB), (7, .int .i64 rB.g), (8, .int .i64 eB), (10, .int .i64 3), (12, .pointer (some ⟨bk91, 0, none⟩)), (13, .int .i64 1)] ⟨rfl, rfl, rfl, rfl, rfl, rfl, rfl, rfl, trivial⟩ (r_round fun K116 hK116 => (q_of ?_)))
     refine go ?_
     exact hK104 3 (by rw [bestE_eq]; first | (rw [if_pos (by omega)]; omega) | (rw [if_neg (by omega), if_neg (by unfold okHul; omega)]) | (rw [if_neg (by omega), if_pos (by unfold okHul; omega)]; omega))
    refine go ?_
    refine y_indexArr (j := 0) (0) underlying35 sizeOf3 rfl rfl rfl rfl rfl (by decide) rfl ?_
    refine go ?_
    refine y_indexArr (j := 0) (0) underlying35 sizeOf3 rfl rfl rfl rfl rfl (by decide) rfl ?_
    refine go ?_
    refine q_p (fun g100 => ?_) fun g100 => ?_
    ·
     refine go ?_
     refine hK108 _ _ (WR.weak [(0, .slice al l.length cl), (3, .pointer (some ⟨bk2, 0, none⟩)), (6, .slice aB (List.length rB.s) cB), (7, .int .i64 rB.g), (8, .int .i64 eB), (10, .int .i64 3), (12, .pointer (some ⟨bk91, 0, none⟩)), (13, .int .i64 1)] ⟨rfl, rfl, rfl, rfl, rfl, rfl, rfl, rfl, trivial⟩ (r_round fun K119 hK119 => (q_of ?_)))
     refine go ?_
     exact hK104 3 (by rw [bestE_eq]; first | (rw [if_pos (by omega)]; omega) | (rw [if_neg (by omega), if_neg (by unfold okHul; omega)]) | (rw [if_neg (by omega), if_pos (by unfold okHul; omega)]; omega))
    refine go ?_
    refine hK108 _ _ (WR.weak [(0, .slice al l.length cl), (3, .pointer (some ⟨bk2, 0, none⟩)), (6, .slice aB (List.length rB.s) cB), (7, .int .i64 rB.g), (8, .int .i64 eB), (10, .int .i64 w2), (12, .pointer (some ⟨bk91, 0, none⟩)), (13, .int .i64 1)] ⟨rfl, rfl, rfl, rfl, rfl, rfl, rfl, rfl, trivial⟩ (r_round fun K122 hK122 => (q_of ?_)))
    refine go ?_
    refine q_p (fun g85 => ?_) fun g85 => ?_
    ·
     refine go ?_
     refine c_drawnM follows (fun _ => False) (OTl [0, 2, 4, 6, 8, 10, 12, 14, 16, 18, 20, 22, 24]) (by kernel_rfl) fun w127 u128 => ?_
     have zu128 := u128.size
     refine go ?_
     refine y_indexArr (j := 1) (1) underlying35 sizeOf3 rfl rfl rfl rfl rfl (by decide) rfl ?_
     refine go ?_
     refine y_splitp 92 rfl (fun g92 => ?_) (fun g92 => ?_)
     ·
      refine go ?_
      refine hK122 _ _ (WR.weak [(0, .slice al l.length cl), (3, .pointer (some ⟨bk2, 0, none⟩)), (6, .slice aB (List.length rB.s) cB), (7, .int .i64 rB.g), (8, .int .i64 eB), (10, .int .i64 3), (12, .pointer (some ⟨bk91, 0, none⟩)), (13, .int .i64 2)] ⟨rfl, rfl, rfl, rfl, rfl, rfl, rfl, rfl, trivial⟩ (r_round fun K130 hK130 => (q_of ?_)))
      refine go ?_
      exact hK104 3 (by rw [bestE_eq]; first | (rw [if_pos (by omega)]; omega) | (rw [if_neg (by omega), if_neg (by unfold okHul; omega)]) | (rw [if_neg (by omega), if_pos (by unfold okHul; omega)]; omega))
     refine go ?_
     refine y_indexArr (j := 1) (1) underlying35 sizeOf3 rfl rfl rfl rfl rfl (by decide) rfl ?_
     refine go ?_
     refine y_indexArr (j := 1) (1) underlying35 sizeOf3 rfl rfl rfl rfl rfl (by decide) rfl ?_
     refine go ?_
     refine q_p (fun g100 => ?_) fun g100 => ?_
     ·
      refine go ?_
      refine hK122 _ _ (WR.weak [(0, .slice al l.length cl), (3, .pointer (some ⟨bk2, 0, none⟩)), (6, .slice aB (List.length rB.s) cB), (7, .int .i64 rB.g), (8, .int .i64 eB), (10, .int .i64 3), (12, .pointer (some ⟨bk91, 0, none⟩)), (13, .int .i64 2)] ⟨rfl, rfl, rfl, rfl, rfl, rfl, rfl, rfl, trivial⟩ (r_round fun K133 hK133 => (q_of ?_)))
      refine go ?_
      exact hK104 3 (by rw [bestE_eq]; first | (rw [if_pos (by omega)]; omega) | (rw [if_neg (by omega), if_neg (by unfold okHul; omega)]) | (rw [if_neg (by omega), if_pos (by unfold okHul; omega)]; omega))
     refine go ?_
     refine hK122 _ _ (WR.weak [(0, .slice al l.length cl), (3, .pointer (some ⟨bk2, 0, none⟩)), (6, .slice aB (List.length rB.s) cB), (7, .int .i64 rB.g), (8, .int .i64 eB), (10, .int .i64 w2), (12, .pointer (some ⟨bk91, 0, none⟩)), (13, .int .i64 2)] ⟨rfl, rfl, rfl, rfl, rfl, rfl, rfl, rfl, trivial⟩ (r_round fun K136 hK136 => (q_of ?_)))
     refine go ?_
     refine q_p (fun g85 => ?_) fun g85 => ?_
     ·
      refine go ?_
      refine c_drawnM follows (fun _ => False) (OTl [0, 2, 4, 6, 8, 10, 12, 14, 16, 18, 20, 22, 24]) (by kernel_rfl) fun w141 u142 => ?_
      have zu142 := u142.size
      refine go ?_
      refine y_indexArr (j := 2) (2) underlying35 sizeOf3 rfl rfl rfl rfl rfl (by decide) rfl ?_
      refine go ?_
      refine y_splitp 92 rfl (fun g92 => ?_) (fun g92 => ?_)
      ·
       refine go ?_
       refine hK136 _ _ (WR.weak [(0, .slice al l.length cl), (3, .pointer (some ⟨bk2, 0, none⟩)), (6, .slice aB (List.length rB.s) cB), (7, .int .i64 rB.g), (8, .int .i64 eB), (10, .int .i64 3), (12, .pointer (some ⟨bk91, 0, none⟩)), (13, .int .i64 3)] ⟨rfl, rfl, rfl, rfl, rfl, rfl, rfl, rfl, trivial⟩ (r_round fun K144 hK144 => (q_of ?_)))
       refine go ?_
       exact hK104 3 (by rw [bestE_eq]; first | (rw [if_pos (by omega)]; omega) | (rw [if_neg (by omega), if_neg (by unfold okHul; omega)]) | (rw [if_neg (by omega), if_pos (by unfold okHul; omega)]; omega))
      refine go ?_
      refine y_indexArr (j := 2) (2) underlying35 sizeOf3 rfl rfl rfl rfl rfl (by decide) rfl ?_
      refine go ?_
      refine y_indexArr (j := 2) (2) underlying35 sizeOf3 rfl rfl rfl rfl rfl (by decide) rfl ?_
      refine go ?_
      refine q_p (fun g100 => ?_) fun g100 => ?_
      ·
       refine go ?_
       refine hK136 _ _ (WR.weak [(0, .slice al l.length cl), (3, .pointer (some ⟨bk2, 0, none⟩)), (6, .slice aB (List.length rB.s) cB), (7, .int .i64 rB.g), (8, .int .i64 eB), (10, .int .i64 3), (12, .pointer (some ⟨bk91, 0, none⟩)), (13, .int .i64 3)] ⟨rfl, rfl, rfl, rfl, rfl, rfl, rfl, rfl, trivial⟩ (r_round fun K147 hK147 => (q_of ?_)))
       refine go ?_
       exact hK104 3 (by rw [bestE_eq]; first | (rw [if_pos (by omega)]; omega) | (rw [if_neg (by omega), if_neg (by unfold okHul; omega)]) | (rw [if_neg (by omega), if_pos (by unfold okHul; omega)]; omega))
      refine go ?_
      refine hK136 _ _ (WR.weak [(0, .slice al l.length cl), (3, .pointer (some ⟨bk2, 0, none⟩)), (6, .slice aB (List.length rB.s) cB), (7, .int .i64 rB.g), (8, .int .i64 eB), (10, .int .i64 w2), (12, .pointer (some ⟨bk91, 0, none⟩)), (13, .int .i64 3)] ⟨rfl, rfl, rfl, rfl, rfl, rfl, rfl, rfl, trivial⟩ (r_round fun K150 hK150 => (q_of ?_)))
      refine go ?_
      refine q_p (fun g85 => ?_) fun g85 => ?_
      ·
       refine go ?_
       refine c_drawnM follows (fun _ => False) (OTl [0, 2, 4, 6, 8, 10, 12, 14, 16, 18, 20, 22, 24]) (by kernel_rfl) fun w155 u156 => ?_
       have zu156 := u156.size
       refine go ?_
       refine y_indexArr (j := 3) (3) underlying35 sizeOf3 rfl rfl rfl rfl rfl (by decide) rfl ?_
       refine go ?_
       refine y_splitp 92 rfl (fun g92 => ?_) (fun g92 => ?_)
       ·
        refine go ?_
        refine hK150 _ _ (WR.weak [(0, .slice al l.length cl), (3, .pointer (some ⟨bk2, 0, none⟩)), (6, .slice aB (List.length rB.s) cB), (7, .int .i64 rB.g), (8, .int .i64 eB), (10, .int .i64 3), (12, .pointer (some ⟨bk91, 0, none⟩)), (13, .int .i64 4)] ⟨rfl, rfl, rfl, rfl, rfl, rfl, rfl, rfl, trivial⟩ (r_round fun K158 hK158 => (q_of ?_)))
        refine go ?_
        exact hK104 3 (by rw [bestE_eq]; first | (rw [if_pos (by omega)]; omega) | (rw [if_neg (by omega), if_neg (by unfold okHul; omega)]) | (rw [if_neg (by omega), if_pos (by unfold okHul; omega)]; omega))
       refine go ?_
       refine y_indexArr (j := 3) (3) underlying35 sizeOf3 rfl rfl rfl rfl rfl (by decide) rfl ?_
       refine go ?_
       refine y_indexArr (j := 3) (3) underlying35 sizeOf3 rfl rfl rfl rfl rfl (by decide) rfl ?_
       refine go ?_
       refine q_p (fun g100 => ?_) fun g100 => ?_
       ·
        refine go ?_
        refine hK150 _ _ (WR.weak [(0, .slice al l.length cl), (3, .pointer (some ⟨bk2, 0, none⟩)), (6, .slice aB (List.length rB.s) cB), (7, .int .i64 rB.g), (8, .int .i64 eB), (10, .int .i64 3), (12, .pointer (some ⟨bk91, 0, none⟩)), (13, .int .i64 4)] ⟨rfl, rfl, rfl, rfl, rfl, rfl, rfl, rfl, trivial⟩ (r_round fun K161 hK161 => (q_of ?_)))
        refine go ?_
        exact hK104 3 (by rw [bestE_eq]; first | (rw [if_pos (by omega)]; omega) | (rw [if_neg (by omega), if_neg (by unfold okHul; omega)]) | (rw [if_neg (by omega), if_pos (by unfold okHul; omega)]; omega))
       refine go ?_
       refine hK150 _ _ (WR.weak [(0, .slice al l.length cl), (3, .pointer (some ⟨bk2, 0, none⟩)), (6, .slice aB (List.length rB.s) cB), (7, .int .i64 rB.g), (8, .int .i64 eB), (10, .int .i64 w2), (12, .pointer (some ⟨bk91, 0, none⟩)), (13, .int .i64 4)] ⟨rfl, rfl, rfl, rfl, rfl, rfl, rfl, rfl, trivial⟩ (r_round fun K164 hK164 => (q_of ?_)))
       refine go ?_
       exact hK104 w2 (by rw [bestE_eq]; first | (rw [if_pos (by omega)]; omega) | (rw [if_neg (by omega), if_neg (by unfold okHul; omega)]) | (rw [if_neg (by omega), if_pos (by unfold okHul; omega)]; omega))
      refine go ?_
      exact hK104 w2 (by rw [bestE_eq]; first | (rw [if_pos (by omega)]; omega) | (rw [if_neg (by omega), if_neg (by unfold okHul; omega)]) | (rw [if_neg (by omega), if_pos (by unfold okHul; omega)]; omega))
     refine go ?_
     exact hK104 w2 (by rw [bestE_eq]; first | (rw [if_pos (by omega)]; omega) | (rw [if_neg (by omega), if_neg (by unfold okHul; omega)]) | (rw [if_neg (by omega), if_pos (by unfold okHul; omega)]; omega))
    refine go ?_
    exact hK104 w2 (by rw [bestE_eq]; first | (rw [if_pos (by omega)]; omega) | (rw [if_neg (by omega), if_neg (by unfold okHul; omega)]) | (rw [if_neg (by omega), if_pos (by unfold okHul; omega)]; omega))
   refine go ?_
   exact hK104 w2 (by rw [bestE_eq]; first | (rw [if_pos (by omega)]; omega) | (rw [if_neg (by omega), if_neg (by unfold okHul; omega)]) | (rw [if_neg (by omega), if_pos (by unfold okHul; omega)]; omega))
  rintro w3 w105 hw3 u106 zu106
  refine go ?_
  refine q_p (fun g102 => ?_) fun g102 => ?_
  ·
   have hr0 : rB = ⟨[], 0⟩ := (hRB.resolve_right (fun q => by omega)).2
   iterate 5 refine st1 ?_
   refine t_same 105 (v := .bool true) rfl (congrArg Value.bool (decide_eq_true (by omega))) ?_
   iterate 4 refine st1 ?_
   refine t_same 109 (v := .bool true) rfl (by rw [hr0]; rfl) ?_
   iterate 4 refine st1 ?_
   refine t_same 113 (v := .bool true) rfl (by rw [hr0]; rfl) ?_
   refine go ?_
   refine x_c func11 rfl rfl (known_c _ (by omega)) ?_
   rintro _ w172 ⟨rfl, u173⟩ zu173
   refine go ?_
   refine f_1 results4 ?_
   exact ⟨rfl, u_d⟩
  have he0 : eB = 0 := by omega
  have hrP : rB = bestP l h := (hRB.resolve_left (fun q => q.1 he0)).2
  obtain ⟨hb1, hb2, hb3⟩ := bestE_0 (l := l) (h := h) (by omega)
  refine go ?_
  refine t_indexArr (j := 0) (0) underlying35 sizeOf3 rfl rfl rfl rfl rfl (by decide) rfl ?_
  refine go ?_
  refine t_indexArr (j := 1) (1) underlying35 sizeOf3 rfl rfl rfl rfl rfl (by decide) rfl ?_
  refine go ?_
  refine t_indexArr (j := 2) (2) underlying35 sizeOf3 rfl rfl rfl rfl rfl (by decide) rfl ?_
  refine go ?_
  refine t_indexArr (j := 3) (3) underlying35 sizeOf3 rfl rfl rfl rfl rfl (by decide) rfl ?_
  refine go ?_
  refine x_c func18 rfl rfl (rBest_c l al bl ol cl (⟨h.p, h.m, h.s, h.c⟩ : Hul) _ (hl.keep ((((E59.u.nx u66).nx u94).next u97 (fun i hi h => by omega)).nx u106) (fun _ h => h)) hb2 hb1 hb3) ?_
  rintro _ w178 ⟨⟨x, rfl, hsx, hx9⟩, u179⟩ zu179
  refine x_n fun bk182 w183 ebk182 sbk182 B184 u185 => ?_
  refine x_s fun w187 sw187 B189 u188 => ?_
  iterate 6 refine st1 ?_
  refine t_same 130 (v := .bool true) rfl (congrArg Value.bool (decide_eq_true he0)) ?_
  refine go ?_
  have D192 := (((((((((hAB.keep u38 (fun _ h => h)).keep u57 (fun _ h => h)).keep u66 (fun _ h => h)).keep u94 (fun _ h => h)).keep u97 (fun h9 => show ¬ (gB = bk91) by have := hAB.lt h9; omega)).keep u106 (fun _ h => h)).keep u179 (fun _ h => h)).keep u185 (fun _ h => h)).keep u188 (fun h9 => show ¬ (gB = bk182) by have := hAB.lt h9; omega))
  have D193 := ((hsx.keep u185 (fun _ h => h)).keep u188 (fun h9 => show ¬ (x.g = bk182) by have := hsx.lt h9; omega))
  refine x_c func19 rfl rfl (equal_c rB.s aB gB oB cB x.r.s x.ao x.g x.o x.cp _ D192 (by rw [hrP]; exact Nat.le_trans (bestP_len hb1 hb2 hb3) (by decide)) D193 (by rw [hx9]; exact Nat.le_trans (bestP_len hb1 hb2 hb3) (by decide))) ?_
  rintro _ w195 ⟨rfl, u196⟩ zu196
  refine t_same 135 (v := .bool true) rfl (congrArg Value.bool (decide_eq_true (by rw [hrP, hx9]))) ?_
  iterate 6 refine st1 ?_
  refine t_same 141 (v := .bool true) rfl (congrArg Value.bool (decide_eq_true (by rw [hrP, hx9]))) ?_
  refine go ?_
  refine x_c func11 rfl rfl (known_c _ (by omega)) ?_
  rintro _ w200 ⟨rfl, u201⟩ zu201
  refine go ?_
  refine f_1 results4 ?_
  exact ⟨rfl, u_d⟩
 refine go ?_
 refine q_p (fun g27 => ?_) fun g27 => ?_
 ·
  have hp9 := hl.lt (by omega)
  refine go ?_
  refine x_c func11 rfl rfl (known_c _ (by omega)) ?_
  rintro _ w206 ⟨rfl, u207⟩ zu207
  refine go ?_
  refine f_1 results4 ?_
  exact ⟨rfl, u_d⟩
 have hl15 : l.length ≤ 15 := by omega
 refine go ?_
 refine x_c func15 rfl rfl (offers0_c l al bl ol cl _ (hl.keep E6.u (fun _ h => h)) (by omega)) ?_
 rintro _ w213 ⟨⟨aoP211, gP211, cP211, rfl, hP211, hgP211, hzP211⟩, u214⟩ zu214
 have hlP211 := hP211.lt
 refine go ?_
 refine t_indexArr (j := 0) (0) underlying35 sizeOf3 rfl rfl rfl rfl rfl (by decide) rfl ?_
 refine go ?_
 refine t_indexArr (j := 1) (1) underlying35 sizeOf3 rfl rfl rfl rfl rfl (by decide) rfl ?_
 refine go ?_
 refine t_indexArr (j := 2) (2) underlying35 sizeOf3 rfl rfl rfl rfl rfl (by decide) rfl ?_
 refine go ?_
 refine t_indexArr (j := 3) (3) underlying35 sizeOf3 rfl rfl rfl rfl rfl (by decide) rfl ?_
 refine go ?_
 refine x_c func16 rfl rfl (Best_c l aoP211 gP211 0 cP211 (⟨h.p, h.m, h.s, h.c⟩ : Hul) _ hP211 (by omega) (by omega)) ?_
 rintro _ w219 ⟨⟨rB, eB, aB, gB, oB, cB, rfl, hAB, hEB, hRB⟩, u220⟩ zu220
 have hEq : eB = bestE l h := hEB
 refine go ?_
 refine x_l1 (fun _ => False) [0, 3, 5, 6, 7, 8] (fun (k : Nat) => [(9, .int .i64 (k : Int))]) (fun k w => (k ≤ l.length)) (fun k => l.length - k) 0 (Nat.zero_le _) ?_
 rintro k w226 hk u227 zu227 K225 hK225
 have E228 := Sc.mk (((E6.u.nx u214).nx u220).nx u227)
 refine go ?_
 refine q_p (fun g48 => ?_) fun g48 => ?_
 ·
  refine go ?_
  refine c_drawnM follows (fun _ => False) (OTl [0, 2, 4, 6, 8, 10, 12, 14, 16]) (by kernel_rfl) fun w233 u234 => ?_
  have zu234 := u234.size
  refine go ?_
  have D236 := (((hP211.keep u220 (fun _ h => h)).keep u227 (fun _ h => h)).keep u234 (fun _ h => h))
  refine y_i k D236 (fun _ => ?_)
  refine go ?_
  refine y_i k (hl.keep (E228.u.nx u234) (fun _ h => h)) (fun _ => ?_)
  refine go ?_
  refine y_neS (xs := [.int .i64 ((nth l k).f), .int .i64 ((nth l k).t), .int .i64 ((nth l k).b), .int .i64 ((nth l k).e), .int .i64 ((nth l k).p)]) (ys := [.int .i64 ((nth l k).f), .int .i64 ((nth l k).t), .int .i64 ((nth l k).b), .int .i64 ((nth l k).e), .int .i64 ((nth l k).p)]) (by kernel_rfl) (eqIn41 9998 ((nth l k).f) ((nth l k).t) ((nth l k).b) ((nth l k).e) ((nth l k).p) ((nth l k).f) ((nth l k).t) ((nth l k).b) ((nth l k).e) ((nth l k).p)) rfl rfl rfl rfl (y_samehd (v := .bool false) (by simp) ?_)
  refine go ?_
  exact hK225 (k + 1) (by omega)
 iterate 11 refine st1 ?_
 refine x_k1 (fun _ => False) [0, 3, 6, 7, 8] (fun (w1 : Int) => [(10, .int .i64 w1)]) (fun w1 w => ((12 < l.length → w1 = 5) ∧ (¬ 12 < l.length → w1 = 0))) (fun K244 hK244 => ?_) ?_
 ·
  refine go ?_
  refine q_p (fun g62 => ?_) fun g62 => ?_
  ·
   refine go ?_
   exact hK244 5 (by omega)
  refine go ?_
  exact hK244 0 (by omega)
 rintro w1 w245 hw1 u246 zu246
 have E248 := Sc.mk (E228.u.nx u246)
 refine x_k1 (fun _ => False) [0, 3, 6, 7, 8] (fun (w2 : Int) => [(10, .int .i64 w2)]) (fun w2 w => (w2 = W2 l)) (fun K253 hK253 => ?_) ?_
 ·
  refine go ?_
  refine x_l2 (fun _ => False) [0, 3, 6, 7, 8] (fun (j : Nat) (v4 : Int) => [(10, .int .i64 v4), (11, .int .i64 (j : Int))]) (fun j v4 w => (j ≤ l.length) ∧ (v4 ≠ 0 → v4 = W2 l) ∧ (v4 = 0 → ¬ 12 < l.length ∧ ∀ j9, j9 < j → okOff (nth l j9) = true)) (fun j v4 => l.length - j) 0 w1 ⟨(Nat.zero_le _), (fun q => (hw1.1 (by omega)).trans (W2_5 (by omega)).symm), (fun q => ⟨by omega, fun j9 hj9 => absurd hj9 (Nat.not_lt_zero j9)⟩)⟩ ?_
  rintro j v4 w258 ⟨hj, hwa, hwb⟩ u259 zu259 K257 hK257
  refine st1 ?_
  refine x_k1 (fun _ => False) [0, 3, 6, 7, 8, 10, 11] (fun (q14 : Bool) => [(70, .bool q14)]) (fun q14 w => (q14 = true ↔ (j < l.length ∧ v4 = 0))) (fun K266 hK266 => ?_) ?_
  ·
   refine go ?_
   refine t_splitp 67 rfl (fun g67 => ?_) (fun g67 => ?_)
   ·
    refine go ?_
    exact hK266 (decide (v4 = 0)) (by rw [decide_eq_true_eq]; omega)
   refine go ?_
   exact hK266 false (⟨fun h => (by cases h), fun h => absurd h (by omega)⟩)
  rintro q14 w267 hq14 u268 zu268
  refine q_b (fun g70 => ?_) fun g70 => ?_
  ·
   have hq9 := hq14.1 g70
   refine go ?_
   refine g_i j (hl.keep ((E248.u.nx u259).nx u268) (fun _ h => h)) (fun _ => ?_)
   refine go ?_
   refine x_c func17 rfl rfl (rOffer_c (nth l j) _) ?_
   rintro _ w274 ⟨rfl, u275⟩ zu275
   refine go ?_
   refine q_b (fun g78 => ?_) fun g78 => ?_
   ·
    refine go ?_
    exact hK257 (j + 1) 2 ⟨(by omega), (fun _ => (W2_2 (k := j) (hwb (by omega)).1 (by omega) (by simpa using g78)).symm), (fun q => by omega)⟩
   refine go ?_
   exact hK257 (j + 1) v4 ⟨(by omega), hwa, (fun q => ⟨(hwb q).1, fun j9 hj9 => (Nat.lt_succ_iff_lt_or_eq.1 hj9).elim ((hwb q).2 j9) (fun e => by subst e; simpa using g78)⟩)⟩
  have hq9 : ¬ (j < l.length ∧ v4 = 0) := fun q => by rw [hq14.2 q] at g70; cases g70
  refine go ?_
  exact hK253 v4 (by
    by_cases q9 : v4 = 0
    · rw [W2_0 (hwb q9).1 (fun j9 hj9 => (hwb q9).2 j9 (by omega))]; exact q9
    · exact hwa q9)
 rintro w2 w254 hw2 u255 zu255
 refine go ?_
 refine t_build (ps := [(0, .int .i64 100000), (1, .int .i64 100000), (2, .int .i64 1000), (3, .int .i64 100000)]) (v := .agg #[.int .i64 100000, .int .i64 100000, .int .i64 1000, .int .i64 100000]) rfl rfl ⟨rfl, rfl⟩ (fun w => by kernel_rfl) ?_
 refine x_n fun bk280 w281 ebk280 sbk280 B282 u283 => ?_
 refine x_s fun w285 sw285 B287 u286 => ?_
 iterate 2 refine st1 ?_
 refine x_k1 (fun _ => False) [0, 3, 6, 7, 8] (fun (w3 : Int) => [(10, .int .i64 w3)]) (fun w3 w => (w3 = bestE l h)) (fun K293 hK293 => ?_) ?_
 ·
  refine go ?_
  refine c_rounds 5 (WR.weak [(0, .slice al l.length cl), (3, .pointer (some ⟨bk2, 0, none⟩)), (6, .slice aB (List.length rB.s) cB), (7, .int .i64 rB.g), (8, .int .i64 eB), (10, .int .i64 w2), (12, .pointer (some ⟨bk280, 0, none⟩)), (13, .int .i64 0)] ⟨rfl, rfl, rfl, rfl, rfl, rfl, rfl, rfl, trivial⟩ (r_round fun K297 hK297 => (q_of ?_)))
  refine go ?_
  refine q_p (fun g85 => ?_) fun g85 => ?_
  ·
   refine go ?_
   refine c_drawnM follows (fun _ => False) (OTl [0, 2, 4, 6, 8, 10, 12, 14, 16, 18, 20, 22, 24]) (by kernel_rfl) fun w302 u303 => ?_
   have zu303 := u303.size
   refine go ?_
   refine y_indexArr (j := 0) (0) underlying35 sizeOf3 rfl rfl rfl rfl rfl (by decide) rfl ?_
   refine go ?_
   refine y_splitp 92 rfl (fun g92 => ?_) (fun g92 => ?_)
   ·
    refine go ?_
    refine hK297 _ _ (WR.weak [(0, .slice al l.length cl), (3, .pointer (some ⟨bk2, 0, none⟩)), (6, .slice aB (List.length rB.s) cB), (7, .int .i64 rB.g), (8, .int .i64 eB), (10, .int .i64 3), (12, .pointer (some ⟨bk280, 0, none⟩)), (13, .int .i64 1)] ⟨rfl, rfl, rfl, rfl, rfl, rfl, rfl, rfl, trivial⟩ (r_round fun K305 hK305 => (q_of ?_)))
    refine go ?_
    exact hK293 3 (by rw [bestE_eq]; first | (rw [if_pos (by omega)]; omega) | (rw [if_neg (by omega), if_neg (by unfold okHul; omega)]) | (rw [if_neg (by omega), if_pos (by unfold okHul; omega)]; omega))
   refine go ?_
   refine y_indexArr (j := 0) (0) underlying35 sizeOf3 rfl rfl rfl rfl rfl (by decide) rfl ?_
   refine go ?_
   refine y_indexArr (j := 0) (0) underlying35 sizeOf3 rfl rfl rfl rfl rfl (by decide) rfl ?_
   refine go ?_
   refine q_p (fun g100 => ?_) fun g100 => ?_
   ·
    refine go ?_
    refine hK297 _ _ (WR.weak [(0, .slice al l.length cl), (3, .pointer (some ⟨bk2, 0, none⟩)), (6, .slice aB (List.length rB.s) cB), (7, .int .i64 rB.g), (8, .int .i64 eB), (10, .int .i64 3), (12, .pointer (some ⟨bk280, 0, none⟩)), (13, .int .i64 1)] ⟨rfl, rfl, rfl, rfl, rfl, rfl, rfl, rfl, trivial⟩ (r_round fun K308 hK308 => (q_of ?_)))
    refine go ?_
    exact hK293 3 (by rw [bestE_eq]; first | (rw [if_pos (by omega)]; omega) | (rw [if_neg (by omega), if_neg (by unfold okHul; omega)]) | (rw [if_neg (by omega), if_pos (by unfold okHul; omega)]; omega))
   refine go ?_
   refine hK297 _ _ (WR.weak [(0, .slice al l.length cl), (3, .pointer (some ⟨bk2, 0, none⟩)), (6, .slice aB (List.length rB.s) cB), (7, .int .i64 rB.g), (8, .int .i64 eB), (10, .int .i64 w2), (12, .pointer (some ⟨bk280, 0, none⟩)), (13, .int .i64 1)] ⟨rfl, rfl, rfl, rfl, rfl, rfl, rfl, rfl, trivial⟩ (r_round fun K311 hK311 => (q_of ?_)))
   refine go ?_
   refine q_p (fun g85 => ?_) fun g85 => ?_
   ·
    refine go ?_
    refine c_drawnM follows (fun _ => False) (OTl [0, 2, 4, 6, 8, 10, 12, 14, 16, 18, 20, 22, 24]) (by kernel_rfl) fun w316 u317 => ?_
    have zu317 := u317.size
    refine go ?_
    refine y_indexArr (j := 1) (1) underlying35 sizeOf3 rfl rfl rfl rfl rfl (by decide) rfl ?_
    refine go ?_
    refine y_splitp 92 rfl (fun g92 => ?_) (fun g92 => ?_)
    ·
     refine go ?_
     refine hK311 _ _ (WR.weak [(0, .slice al l.length cl), (3, .pointer (some ⟨bk2, 0, none⟩)), (6, .slice aB (List.length rB.s) cB), (7, .int .i64 rB.g), (8, .int .i64 eB), (10, .int .i64 3), (12, .pointer (some ⟨bk280, 0, none⟩)), (13, .int .i64 2)] ⟨rfl, rfl, rfl, rfl, rfl, rfl, rfl, rfl, trivial⟩ (r_round fun K319 hK319 => (q_of ?_)))
     refine go ?_
     exact hK293 3 (by rw [bestE_eq]; first | (rw [if_pos (by omega)]; omega) | (rw [if_neg (by omega), if_neg (by unfold okHul; omega)]) | (rw [if_neg (by omega), if_pos (by unfold okHul; omega)]; omega))
    refine go ?_
    refine y_indexArr (j := 1) (1) underlying35 sizeOf3 rfl rfl rfl rfl rfl (by decide) rfl ?_
    refine go ?_
    refine y_indexArr (j := 1) (1) underlying35 sizeOf3 rfl rfl rfl rfl rfl (by decide) rfl ?_
    refine go ?_
    refine q_p (fun g100 => ?_) fun g100 => ?_
    ·
     refine go ?_
     refine hK311 _ _ (WR.weak [(0, .slice al l.length cl), (3, .pointer (some ⟨bk2, 0, none⟩)), (6, .slice aB (List.length rB.s) cB), (7, .int .i64 rB.g), (8, .int .i64 eB), (10, .int .i64 3), (12, .pointer (some ⟨bk280, 0, none⟩)), (13, .int .i64 2)] ⟨rfl, rfl, rfl, rfl, rfl, rfl, rfl, rfl, trivial⟩ (r_round fun K322 hK322 => (q_of ?_)))
     refine go ?_
     exact hK293 3 (by rw [bestE_eq]; first | (rw [if_pos (by omega)]; omega) | (rw [if_neg (by omega), if_neg (by unfold okHul; omega)]) | (rw [if_neg (by omega), if_pos (by unfold okHul; omega)]; omega))
    refine go ?_
    refine hK311 _ _ (WR.weak [(0, .slice al l.length cl), (3, .pointer (some ⟨bk2, 0, none⟩)), (6, .slice aB (List.length rB.s) cB), (7, .int .i64 rB.g), (8, .int .i64 eB), (10, .int .i64 w2), (12, .pointer (some ⟨bk280, 0, none⟩)), (13, .int .i64 2)] ⟨rfl, rfl, rfl, rfl, rfl, rfl, rfl, rfl, trivial⟩ (r_round fun K325 hK325 => (q_of ?_)))
    refine go ?_
    refine q_p (fun g85 => ?_) fun g85 => ?_
    ·
     refine go ?_
     refine c_drawnM follows (fun _ => False) (OTl [0, 2, 4, 6, 8, 10, 12, 14, 16, 18, 20, 22, 24]) (by kernel_rfl) fun w330 u331 => ?_
     have zu331 := u331.size
     refine go ?_
     refine y_indexArr (j := 2) (2) underlying35 sizeOf3 rfl rfl rfl rfl rfl (by decide) rfl ?_
     refine go ?_
     refine y_splitp 92 rfl (fun g92 => ?_) (fun g92 => ?_)
     ·
      refine go ?_
      refine hK325 _ _ (WR.weak [(0, .slice al l.length cl), (3, .pointer (some ⟨bk2, 0, none⟩)), (6, .slice aB (List.length rB.s) cB), (7, .int .i64 rB.g), (8, .int .i64 eB), (10, .int .i64 3), (12, .pointer (some ⟨bk280, 0, none⟩)), (13, .int .i64 3)] ⟨rfl, rfl, rfl, rfl, rfl, rfl, rfl, rfl, trivial⟩ (r_round fun K333 hK333 => (q_of ?_)))
      refine go ?_
      exact hK293 3 (by rw [bestE_eq]; first | (rw [if_pos (by omega)]; omega) | (rw [if_neg (by omega), if_neg (by unfold okHul; omega)]) | (rw [if_neg (by omega), if_pos (by unfold okHul; omega)]; omega))
     refine go ?_
     refine y_indexArr (j := 2) (2) underlying35 sizeOf3 rfl rfl rfl rfl rfl (by decide) rfl ?_
     refine go ?_
     refine y_indexArr (j := 2) (2) underlying35 sizeOf3 rfl rfl rfl rfl rfl (by decide) rfl ?_
     refine go ?_
     refine q_p (fun g100 => ?_) fun g100 => ?_
     ·
      refine go ?_
      refine hK325 _ _ (WR.weak [(0, .slice al l.length cl), (3, .pointer (some ⟨bk2, 0, none⟩)), (6, .slice aB (List.length rB.s) cB), (7, .int .i64 rB.g), (8, .int .i64 eB), (10, .int .i64 3), (12, .pointer (some ⟨bk280, 0, none⟩)), (13, .int .i64 3)] ⟨rfl, rfl, rfl, rfl, rfl, rfl, rfl, rfl, trivial⟩ (r_round fun K336 hK336 => (q_of ?_)))
      refine go ?_
      exact hK293 3 (by rw [bestE_eq]; first | (rw [if_pos (by omega)]; omega) | (rw [if_neg (by omega), if_neg (by unfold okHul; omega)]) | (rw [if_neg (by omega), if_pos (by unfold okHul; omega)]; omega))
     refine go ?_
     refine hK325 _ _ (WR.weak [(0, .slice al l.length cl), (3, .pointer (some ⟨bk2, 0, none⟩)), (6, .slice aB (List.length rB.s) cB), (7, .int .i64 rB.g), (8, .int .i64 eB), (10, .int .i64 w2), (12, .pointer (some ⟨bk280, 0, none⟩)), (13, .int .i64 3)] ⟨rfl, rfl, rfl, rfl, rfl, rfl, rfl, rfl, trivial⟩ (r_round fun K339 hK339 => (q_of ?_)))
     refine go ?_
     refine q_p (fun g85 => ?_) fun g85 => ?_
     ·
      refine go ?_
      refine c_drawnM follows (fun _ => False) (OTl [0, 2, 4, 6, 8, 10, 12, 14, 16, 18, 20, 22, 24]) (by kernel_rfl) fun w344 u345 => ?_
      have zu345 := u345.size
      refine go ?_
      refine y_indexArr (j := 3) (3) underlying35 sizeOf3 rfl rfl rfl rfl rfl (by decide) rfl ?_
      refine go ?_
      refine y_splitp 92 rfl (fun g92 => ?_) (fun g92 => ?_)
      ·
       refine go ?_
       refine hK339 _ _ (WR.weak [(0, .slice al l.length cl), (3, .pointer (some ⟨bk2, 0, none⟩)), (6, .slice aB (List.length rB.s) cB), (7, .int .i64 rB.g), (8, .int .i64 eB), (10, .int .i64 3), (12, .pointer (some ⟨bk280, 0, none⟩)), (13, .int .i64 4)] ⟨rfl, rfl, rfl, rfl, rfl, rfl, rfl, rfl, trivial⟩ (r_round fun K347 hK347 => (q_of ?_)))
       refine go ?_
       exact hK293 3 (by rw [bestE_eq]; first | (rw [if_pos (by omega)]; omega) | (rw [if_neg (by omega), if_neg (by unfold okHul; omega)]) | (rw [if_neg (by omega), if_pos (by unfold okHul; omega)]; omega))
      refine go ?_
      refine y_indexArr (j := 3) (3) underlying35 sizeOf3 rfl rfl rfl rfl rfl (by decide) rfl ?_
      refine go ?_
      refine y_indexArr (j := 3) (3) underlying35 sizeOf3 rfl rfl rfl rfl rfl (by decide) rfl ?_
      refine go ?_
      refine q_p (fun g100 => ?_) fun g100 => ?_
      ·
       refine go ?_
       refine hK339 _ _ (WR.weak [(0, .slice al l.length cl), (3, .pointer (some ⟨bk2, 0, none⟩)), (6, .slice aB (List.length rB.s) cB), (7, .int .i64 rB.g), (8, .int .i64 eB), (10, .int .i64 3), (12, .pointer (some ⟨bk280, 0, none⟩)), (13, .int .i64 4)] ⟨rfl, rfl, rfl, rfl, rfl, rfl, rfl, rfl, trivial⟩ (r_round fun K350 hK350 => (q_of ?_)))
       refine go ?_
       exact hK293 3 (by rw [bestE_eq]; first | (rw [if_pos (by omega)]; omega) | (rw [if_neg (by omega), if_neg (by unfold okHul; omega)]) | (rw [if_neg (by omega), if_pos (by unfold okHul; omega)]; omega))
      refine go ?_
      refine hK339 _ _ (WR.weak [(0, .slice al l.length cl), (3, .pointer (some ⟨bk2, 0, none⟩)), (6, .slice aB (List.length rB.s) cB), (7, .int .i64 rB.g), (8, .int .i64 eB), (10, .int .i64 w2), (12, .pointer (some ⟨bk280, 0, none⟩)), (13, .int .i64 4)] ⟨rfl, rfl, rfl, rfl, rfl, rfl, rfl, rfl, trivial⟩ (r_round fun K353 hK353 => (q_of ?_)))
      refine go ?_
      exact hK293 w2 (by rw [bestE_eq]; first | (rw [if_pos (by omega)]; omega) | (rw [if_neg (by omega), if_neg (by unfold okHul; omega)]) | (rw [if_neg (by omega), if_pos (by unfold okHul; omega)]; omega))
     refine go ?_
     exact hK293 w2 (by rw [bestE_eq]; first | (rw [if_pos (by omega)]; omega) | (rw [if_neg (by omega), if_neg (by unfold okHul; omega)]) | (rw [if_neg (by omega), if_pos (by unfold okHul; omega)]; omega))
    refine go ?_
    exact hK293 w2 (by rw [bestE_eq]; first | (rw [if_pos (by omega)]; omega) | (rw [if_neg (by omega), if_neg (by unfold okHul; omega)]) | (rw [if_neg (by omega), if_pos (by unfold okHul; omega)]; omega))
   refine go ?_
   exact hK293 w2 (by rw [bestE_eq]; first | (rw [if_pos (by omega)]; omega) | (rw [if_neg (by omega), if_neg (by unfold okHul; omega)]) | (rw [if_neg (by omega), if_pos (by unfold okHul; omega)]; omega))
  refine go ?_
  exact hK293 w2 (by rw [bestE_eq]; first | (rw [if_pos (by omega)]; omega) | (rw [if_neg (by omega), if_neg (by unfold okHul; omega)]) | (rw [if_neg (by omega), if_pos (by unfold okHul; omega)]; omega))
 rintro w3 w294 hw3 u295 zu295
 refine go ?_
 refine q_p (fun g102 => ?_) fun g102 => ?_
 ·
  have hr0 : rB = ⟨[], 0⟩ := (hRB.resolve_right (fun q => by omega)).2
  iterate 5 refine st1 ?_
  refine t_same 105 (v := .bool true) rfl (congrArg Value.bool (decide_eq_true (by omega))) ?_
  iterate 4 refine st1 ?_
  refine t_same 109 (v := .bool true) rfl (by rw [hr0]; rfl) ?_
  iterate 4 refine st1 ?_
  refine t_same 113 (v := .bool true) rfl (by rw [hr0]; rfl) ?_
  refine go ?_
  refine x_c func11 rfl rfl (known_c _ (by omega)) ?_
  rintro _ w361 ⟨rfl, u362⟩ zu362
  refine go ?_
  refine f_1 results4 ?_
  exact ⟨rfl, u_d⟩
 have he0 : eB = 0 := by omega
 have hrP : rB = bestP l h := (hRB.resolve_left (fun q => q.1 he0)).2
 obtain ⟨hb1, hb2, hb3⟩ := bestE_0 (l := l) (h := h) (by omega)
 refine go ?_
 refine t_indexArr (j := 0) (0) underlying35 sizeOf3 rfl rfl rfl rfl rfl (by decide) rfl ?_
 refine go ?_
 refine t_indexArr (j := 1) (1) underlying35 sizeOf3 rfl rfl rfl rfl rfl (by decide) rfl ?_
 refine go ?_
 refine t_indexArr (j := 2) (2) underlying35 sizeOf3 rfl rfl rfl rfl rfl (by decide) rfl ?_
 refine go ?_
 refine t_indexArr (j := 3) (3) underlying35 sizeOf3 rfl rfl rfl rfl rfl (by decide) rfl ?_
 refine go ?_
 refine x_c func18 rfl rfl (rBest_c l al bl ol cl (⟨h.p, h.m, h.s, h.c⟩ : Hul) _ (hl.keep ((((E248.u.nx u255).nx u283).next u286 (fun i hi h => by omega)).nx u295) (fun _ h => h)) hb2 hb1 hb3) ?_
 rintro _ w367 ⟨⟨x, rfl, hsx, hx9⟩, u368⟩ zu368
 refine x_n fun bk371 w372 ebk371 sbk371 B373 u374 => ?_
 refine x_s fun w376 sw376 B378 u377 => ?_
 iterate 6 refine st1 ?_
 refine t_same 130 (v := .bool true) rfl (congrArg Value.bool (decide_eq_true he0)) ?_
 refine go ?_
 have D381 := (((((((((hAB.keep u227 (fun _ h => h)).keep u246 (fun _ h => h)).keep u255 (fun _ h => h)).keep u283 (fun _ h => h)).keep u286 (fun h9 => show ¬ (gB = bk280) by have := hAB.lt h9; omega)).keep u295 (fun _ h => h)).keep u368 (fun _ h => h)).keep u374 (fun _ h => h)).keep u377 (fun h9 => show ¬ (gB = bk371) by have := hAB.lt h9; omega))
 have D382 := ((hsx.keep u374 (fun _ h => h)).keep u377 (fun h9 => show ¬ (x.g = bk371) by have := hsx.lt h9; omega))
 refine x_c func19 rfl rfl (equal_c rB.s aB gB oB cB x.r.s x.ao x.g x.o x.cp _ D381 (by rw [hrP]; exact Nat.le_trans (bestP_len hb1 hb2 hb3) (by decide)) D382 (by rw [hx9]; exact Nat.le_trans (bestP_len hb1 hb2 hb3) (by decide))) ?_
 rintro _ w384 ⟨rfl, u385⟩ zu385
 refine t_same 135 (v := .bool true) rfl (congrArg Value.bool (decide_eq_true (by rw [hrP, hx9]))) ?_
 iterate 6 refine st1 ?_
 refine t_same 141 (v := .bool true) rfl (congrArg Value.bool (decide_eq_true (by rw [hrP, hx9]))) ?_
 refine go ?_
 refine x_c func11 rfl rfl (known_c _ (by omega)) ?_
 rintro _ w389 ⟨rfl, u390⟩ zu390
 refine go ?_
 refine f_1 results4 ?_
 exact ⟨rfl, u_d⟩

end Go.Proofs.YtgoajalaomakpaaGreat
