/-
  Part 17 of the proof: contracts and plain laws. Conditions: none.
-/
import Derived.Test.YtgoajalaomakpaaGreatDK16
namespace Go.Proofs.YtgoajalaomakpaaGreat
open Go Go.RowKit Go.Proofs.Tryz

theorem cmpC_lt {c d : Clr} : cmpC c d < 0 ↔ d.t < c.t ∨ (d.t = c.t ∧ (c.g < d.g ∨ (c.g = d.g ∧ c.p < d.p))) := by
  unfold cmpC; rw [or3_lt, cmp_lt, cmp_eq, cmp_lt, cmp_eq, cmp_lt]
theorem minK_least {l : List Clr} : ∀ {k : Nat}, k < l.length → ∀ i, i ≤ k → ¬ cmpC (nth l i) (minK l k) < 0
  | 0, _, i, hi => by
    rw [show i = 0 by omega, minK, cmpC_lt]; omega
  | k + 1, hk, i, hi => by
    have ih := minK_least (l := l) (k := k) (by omega)
    unfold minK
    split
    · rename_i q
      rcases Nat.lt_or_eq_of_le hi with q2 | q2
      · have := ih i (by omega)
        rw [cmpC_lt] at *; omega
      · rw [q2, cmpC_lt]; omega
    · rename_i q
      rcases Nat.lt_or_eq_of_le hi with q2 | q2
      · exact ih i (by omega)
      · rw [q2]; exact q
/-- The best clearing of the first prices. -/
def ScI (lb la : List Bid) (k : Nat) (be mo le : Int) : Prop := (be = -1 ∧ mo = 0 ∧ le = 0 ∧ ∀ i, i < k → (nth (crs lb la) i).t = 0) ∨ (0 < mo ∧ ∃ j, j < k ∧ nth (crs lb la) j = ⟨be, mo, le⟩ ∧ ∀ i, i < k → ¬ cmpC (nth (crs lb la) i) ⟨be, mo, le⟩ < 0)
def scC (be mo le p n gp : Int) : Prop := mo < n ∨ (n = mo ∧ 0 < n ∧ (gp < le ∨ (gp = le ∧ p < be)))
theorem ScI.step {lb la : List Bid} {k : Nat} {be mo le p n gp : Int} (h : ScI lb la k be mo le) (hc : nth (crs lb la) k = ⟨p, n, gp⟩) (h0 : 0 ≤ n) : (scC be mo le p n gp → ScI lb la (k + 1) p n gp) ∧ (¬ scC be mo le p n gp → ScI lb la (k + 1) be mo le) := by
  unfold scC
  constructor
  · intro q
    have hn : 0 < n := by rcases h with ⟨_, h2, _⟩ | ⟨h1, _⟩ <;> omega
    refine .inr ⟨hn, k, by omega, hc, fun i hi => ?_⟩
    rcases Nat.lt_succ_iff_lt_or_eq.1 hi with q2 | rfl
    · rcases h with ⟨_, h2, _, h4⟩ | ⟨h1, j, hj, e, h4⟩
      · have := h4 i q2
        rw [cmpC_lt]; dsimp only; omega
      · have := h4 i q2
        rw [cmpC_lt] at *; dsimp only at *; omega
    · rw [hc, cmpC_lt]; dsimp only; omega
  · intro q
    rcases h with ⟨h1, h2, h3, h4⟩ | ⟨h1, j, hj, e, h4⟩
    · refine .inl ⟨h1, h2, h3, fun i hi => ?_⟩
      rcases Nat.lt_succ_iff_lt_or_eq.1 hi with q2 | rfl
      · exact h4 i q2
      · rw [hc]; dsimp only; omega
    · refine .inr ⟨h1, j, by omega, e, fun i hi => ?_⟩
      rcases Nat.lt_succ_iff_lt_or_eq.1 hi with q2 | rfl
      · exact h4 i q2
      · rw [hc, cmpC_lt]; dsimp only; omega
theorem ScI.fin {lb la : List Bid} {be mo le : Int} (hb : ∀ x ∈ lb ++ la, okBid x = true) (h : ScI lb la (lb ++ la).length be mo le) : (be < 0 → (lb ++ la).length = 0 ∨ (mtBest lb la).t = 0) ∧ (0 ≤ be → mtBest lb la = ⟨be, mo, le⟩ ∧ 0 < mo ∧ (crs lb la).length ≠ 0) := by
  have hlen := crs_len lb la
  rcases h with ⟨h1, h2, h3, h4⟩ | ⟨h1, j, hj, e, h4⟩
  · refine ⟨fun _ => ?_, fun q => by omega⟩
    by_cases q : (lb ++ la).length = 0
    · exact .inl q
    · right
      have hm : mtBest lb la ∈ crs lb la := minK_mem (by omega)
      obtain ⟨i, hi, ei⟩ := List.getElem_of_mem hm
      rw [← ei, ← nth_eq hi]
      exact h4 i (by omega)
  · have hne : (crs lb la).length ≠ 0 := by omega
    have hp := (okBid_ok (hb _ (nth_mem hj))).2.2.1
    have ej := crs_nth (lb := lb) (la := la) hj
    have hbe : be = (nth (lb ++ la) j).r := by
      rw [e] at ej
      exact congrArg Clr.p ej
    have key : mtBest lb la = ⟨be, mo, le⟩ := by
      have hm : mtBest lb la ∈ crs lb la := minK_mem (by omega)
      obtain ⟨i, hi, ei⟩ := List.getElem_of_mem hm
      have q1 := h4 i (by omega)
      rw [nth_eq hi, ei, cmpC_lt] at q1
      have q2 := minK_least (l := crs lb la) (k := (crs lb la).length - 1) (by omega) j (by omega)
      rw [e, cmpC_lt] at q2
      have e3 : minK (crs lb la) ((crs lb la).length - 1) = mtBest lb la := rfl
      rw [e3] at q2
      generalize mtBest lb la = m at *
      cases m
      dsimp only at *
      simp only [Clr.mk.injEq]
      omega
    exact ⟨fun q => by omega, fun _ => ⟨key, h1, hne⟩⟩
/-- What Match returns is one. -/
theorem MtR.uniq {lb la : List Bid} {p p2 e e2 : Int} {ts ts2 : List Trd} (h : MtR lb la p ts e) (h2 : MtR lb la p2 ts2 e2) : p = p2 ∧ ts = ts2 ∧ e = e2 := by
  obtain ⟨he, h⟩ := h
  obtain ⟨he2, h2⟩ := h2
  have ee : e = e2 := he.trans he2.symm
  subst ee
  rcases h with ⟨a1, a2, a3⟩ | ⟨a1, a2, yb, ya, a3, a4, a5, a6, k, a7, a8, a9⟩ <;> rcases h2 with ⟨b1, b2, b3⟩ | ⟨b1, b2, zb, za, b3, b4, b5, b6, m, b7, b8, b9⟩
  · exact ⟨a2.trans b2.symm, a3.trans b3.symm, rfl⟩
  · exact absurd b1 a1
  · exact absurd a1 b1
  · subst a2 b2
    have hnd : (lb.map Bid.p).Nodup ∧ (la.map Bid.p).Nodup := by
      rw [a1] at he
      unfold mtErr at he
      split at he
      · omega
      · split at he
        · omega
        · split at he
          · omega
          · rename_i q
            exact ⟨Classical.byContradiction (fun w => q (.inl w)), Classical.byContradiction (fun w => q (.inr w))⟩
    have sub : ∀ {l : List Bid} {f : Bid → Bool}, (l.map Bid.p).Nodup → ((l.filter f).map Bid.p).Nodup := fun h => h.sublist (List.Sublist.map _ List.filter_sublist)
    have e1 : yb = zb := queue_uniq (.inr rfl) a3 a4 (sub hnd.1) (queue_strict (.inr rfl) b3 b4 (sub hnd.1)) (fun x => b3.mem_iff)
    have e2 : ya = za := queue_uniq (.inl rfl) a5 a6 (sub hnd.2) (queue_strict (.inl rfl) b5 b6 (sub hnd.2)) (fun x => b5.mem_iff)
    subst e1 e2
    have e3 : k = m := by
      rcases Nat.lt_trichotomy k m with q | q | q
      · have := b8 k q; omega
      · exact q
      · have := a8 m q; omega
    subst e3
    exact ⟨rfl, a9.trans b9.symm, rfl⟩
theorem rabsB_c (n : Int) (w0 : World) (hn : -1000000000000000 ≤ n ∧ n ≤ 1000000000000000) :
    CallsV Tryz.prog 54 [.int .i64 n] w0 (fun v w' => v = .int .i64 (max n (-n)) ∧ Ext w0 w') := by
 refine f_n func54 ?_
 refine go ?_
 refine t_neg rfl rfl rfl (by omega) (t_max rfl rfl rfl rfl ?_)
 refine go ?_
 refine f_1 results54 ?_
 exact ⟨rfl, u_d⟩

set_option maxHeartbeats 4000000 in
theorem rMatch_c (lb : List Bid) (ab : Option Addr) (bb ob cb : Nat) (la : List Bid) (aa : Option Addr) (ba oa ca : Nat) (w0 : World) (hlb : Sl encBid 4 w0 ab bb ob lb) (hllb : lb.length ≤ 1000) (hla : Sl encBid 4 w0 aa ba oa la) (hlla : la.length ≤ 1000) :
    CallsV Tryz.prog 14 [.slice ab lb.length cb, .slice aa la.length ca] w0 (fun v w' => (∃ p ts ao g cp e, v = .tuple #[.int .i64 p, .slice ao (List.length ts) cp, .int .i64 e] ∧ Sl encTrd 3 w' ao g 0 ts ∧ MtR lb la p ts e) ∧ Ext w0 w') := by
 refine f_n func14 ?_
 refine go ?_
 refine t_splitp 26 rfl (fun g26 => ?_) (fun g26 => ?_)
 ·
  refine go ?_
  refine f_ret3 (v1 := .int .i64 0) (v2 := .slice none 0 0) (v3 := .int .i64 5) results14 rfl rfl rfl ?_
  exact ⟨⟨0, [], none, 0, 0, 5, rfl, Sl.nil _ _ _ _ _ _, ⟨by unfold mtErr; rw [if_pos (by omega)], .inl ⟨by decide, rfl, rfl⟩⟩⟩, u_d⟩
 refine go ?_
 refine q_p (fun g30 => ?_) fun g30 => ?_
 ·
  refine go ?_
  refine f_ret3 (v1 := .int .i64 0) (v2 := .slice none 0 0) (v3 := .int .i64 5) results14 rfl rfl rfl ?_
  exact ⟨⟨0, [], none, 0, 0, 5, rfl, Sl.nil _ _ _ _ _ _, ⟨by unfold mtErr; rw [if_pos (by omega)], .inl ⟨by decide, rfl, rfl⟩⟩⟩, u_d⟩
 refine go ?_
 refine x_l fun bk7 w8 ebk7 sbk7 B9 u10 => ?_
 have E11 := Sc.mk ((Upd.refl (fun _ => False) w0).nx u10)
 refine go ?_
 refine t_copy (enc := encBid) (z := .agg #[.int .i64 0, .int .i64 0, .int .i64 0, .int .i64 0]) (bytes := 32) (k := 4) (ys := lb) underlying22 (by kernel_rfl) rfl (by decide) (fun _ => rfl) (by intro x; simp [encBid, Value.oneCell']) rfl rfl rfl rfl B9 (hlb.keep E11.u (fun _ h => h)) (by omega) (by decide) (fun ao12 gb13 cp14 w15 A16 u17 gegb13 => ?_)
 have zu17 := u17.size
 have E18 := Sc.mk (E11.u.next u17 (fun i hi h => by omega))
 have lt_gb13 := A16.lt
 refine go ?_
 refine t_appendAll (enc := encBid) (z := .agg #[.int .i64 0, .int .i64 0, .int .i64 0, .int .i64 0]) (bytes := 32) (k := 4) (base := bk7) (xs := lb) (ys := la) underlying22 (by kernel_rfl) rfl (by decide) (fun _ => rfl) (by intro x; simp [encBid, Value.oneCell']) rfl rfl rfl rfl A16 (hla.keep E18.u (fun _ h => h)) (by omega) (by omega) (by omega) (by decide) (fun ao19 gb20 cp21 w22 A23 u24 gegb20 lngb20 => ?_)
 have zu24 := u24.size
 have lt_gb20 := A23.lt
 refine go ?_
 refine x_l1 (fun _ => False) [0, 1, 7] (fun (k : Nat) => [(8, .int .i64 (k : Int))]) (fun k w => (k ≤ (lb ++ la).length) ∧ (∀ j, j < k → okBid (nth (lb ++ la) j) = true)) (fun k => (lb ++ la).length - k) 0 ⟨(Nat.zero_le _), (fun j h => absurd h (Nat.not_lt_zero j))⟩ ?_
 rintro k w29 ⟨hk, hokk⟩ u30 zu30 K28 hK28
 have E31 := Sc.mk ((E18.u.next u24 (fun i hi h => by omega)).nx u30)
 refine go ?_
 refine q_p (fun g39 => ?_) fun g39 => ?_
 ·
  refine go ?_
  have D36 := (A23.keep u30 (fun _ h => h))
  refine g_i k (D36.sl (fun _ => rfl)) (fun _ => ?_)
  refine go ?_
  refine x_c func50 rfl rfl (rBid_c (nth (lb ++ la) k) _) ?_
  rintro _ w39 ⟨rfl, u40⟩ zu40
  refine go ?_
  refine q_b (fun g47 => ?_) fun g47 => ?_
  ·
   refine go ?_
   refine f_ret3 (v1 := .int .i64 0) (v2 := .slice none 0 0) (v3 := .int .i64 2) results14 rfl rfl rfl ?_
   exact ⟨⟨0, [], none, 0, 0, 2, rfl, Sl.nil _ _ _ _ _ _, ⟨by unfold mtErr; rw [if_neg (by omega), if_pos (List.any_eq_true.2 ⟨_, nth_mem (xs := (lb ++ la)) (i := k) (by omega), g47⟩)], .inl ⟨by decide, rfl, rfl⟩⟩⟩, u_d⟩
  refine go ?_
  exact hK28 (k + 1) ⟨(by omega), (fun j h => (Nat.lt_succ_iff_lt_or_eq.1 h).elim (hokk j) (fun e => by subst e; simpa using g47))⟩
 have hokal : ∀ x ∈ (lb ++ la), okBid x = true := fun x hx => by
   obtain ⟨i, hi, rfl⟩ := List.getElem_of_mem hx
   rw [← nth_eq hi]; exact hokk i (by omega)
 have hanyf : ¬ ((lb ++ la).any fun x => !okBid x) = true := fun q => by
   obtain ⟨x, hx, e⟩ := List.any_eq_true.1 q
   simp [hokal x hx] at e
 have hall : (lb ++ la).length = lb.length + la.length := List.length_append
 refine go ?_
 refine x_c func51 rfl rfl (rtwice_c lb ab bb ob cb  _ (hlb.keep E31.u (fun _ h => h)) (by omega)) ?_
 rintro _ w47 ⟨rfl, u48⟩ zu48
 have E50 := Sc.mk (E31.u.nx u48)
 refine go ?_
 refine t_split 50 rfl (fun g50 => ?_) (fun g50 => ?_)
 ·
  refine go ?_
  refine f_ret3 (v1 := .int .i64 0) (v2 := .slice none 0 0) (v3 := .int .i64 6) results14 rfl rfl rfl ?_
  exact ⟨⟨0, [], none, 0, 0, 6, rfl, Sl.nil _ _ _ _ _ _, ⟨by unfold mtErr; rw [if_neg (by omega), if_neg hanyf, if_pos (.inl (by simpa using g50))], .inl ⟨by decide, rfl, rfl⟩⟩⟩, u_d⟩
 refine go ?_
 refine x_c func51 rfl rfl (rtwice_c la aa ba oa ca  _ (hla.keep E50.u (fun _ h => h)) (by omega)) ?_
 rintro _ w53 ⟨rfl, u54⟩ zu54
 refine go ?_
 refine q_b (fun g53 => ?_) fun g53 => ?_
 ·
  refine go ?_
  refine f_ret3 (v1 := .int .i64 0) (v2 := .slice none 0 0) (v3 := .int .i64 6) results14 rfl rfl rfl ?_
  exact ⟨⟨0, [], none, 0, 0, 6, rfl, Sl.nil _ _ _ _ _ _, ⟨by unfold mtErr; rw [if_neg (by omega), if_neg hanyf, if_pos (.inr (by simpa using g53))], .inl ⟨by decide, rfl, rfl⟩⟩⟩, u_d⟩
 have hq1 : (lb.map Bid.p).Nodup := by simpa using g50
 have hq2 : (la.map Bid.p).Nodup := by simpa using g53
 have hnd9 : ¬ (¬ (lb.map Bid.p).Nodup ∨ ¬ (la.map Bid.p).Nodup) := fun h => h.elim (fun q => q hq1) (fun q => q hq2)
 refine go ?_
 refine x_l4 (fun _ => False) [0, 1, 7] (fun (k : Nat) (be : Int) (mo : Int) (le : Int) => [(9, .int .i64 be), (10, .int .i64 mo), (11, .int .i64 le), (12, .int .i64 (k : Int))]) (fun k be mo le w => (k ≤ (lb ++ la).length) ∧ (ScI lb la k be mo le)) (fun k be mo le => (lb ++ la).length - k) 0 (-1) 0 0 ⟨(Nat.zero_le _), (.inl ⟨rfl, rfl, rfl, fun i h => absurd h (Nat.not_lt_zero i)⟩)⟩ ?_
 rintro k be mo le w62 ⟨hk, hsc⟩ u63 zu63 K61 hK61
 have E64 := Sc.mk ((E50.u.nx u54).nx u63)
 refine go ?_
 refine q_p (fun g57 => ?_) fun g57 => ?_
 ·
  have hpk := (okBid_ok (hokal _ (nth_mem (xs := (lb ++ la)) (i := k) (by omega)))).2.2.1
  have hck : nth (crs lb la) k = ⟨(nth (lb ++ la) k).r, min (tonK (-1) (nth (lb ++ la) k).r lb lb.length) (tonK 1 (nth (lb ++ la) k).r la la.length), max ((tonK (-1) (nth (lb ++ la) k).r lb lb.length) - (tonK 1 (nth (lb ++ la) k).r la la.length)) ((tonK 1 (nth (lb ++ la) k).r la la.length) - (tonK (-1) (nth (lb ++ la) k).r lb lb.length))⟩ := crs_nth (by omega)
  have htb := tonK_bd (sg := -1) (p := (nth (lb ++ la) k).r) (l := lb) (fun x hx => hokal x (List.mem_append_left _ hx)) (Nat.le_refl _)
  have hta := tonK_bd (sg := 1) (p := (nth (lb ++ la) k).r) (l := la) (fun x hx => hokal x (List.mem_append_right _ hx)) (Nat.le_refl _)
  refine go ?_
  have D69 := ((((A23.keep u30 (fun _ h => h)).keep u48 (fun _ h => h)).keep u54 (fun _ h => h)).keep u63 (fun _ h => h))
  refine g_i k (D69.sl (fun _ => rfl)) (fun _ => ?_)
  refine go ?_
  refine x_c func52 rfl rfl (rDemand_c lb ab bb ob cb ((nth (lb ++ la) k).r) _ (hlb.keep E64.u (fun _ h => h)) (by omega) (fun x hx => hokal x (List.mem_append_left _ hx))) ?_
  rintro _ w73 ⟨rfl, u74⟩ zu74
  refine go ?_
  refine x_c func53 rfl rfl (rSupply_c la aa ba oa ca ((nth (lb ++ la) k).r) _ (hla.keep (E64.u.nx u74) (fun _ h => h)) (by omega) (fun x hx => hokal x (List.mem_append_right _ hx))) ?_
  rintro _ w78 ⟨rfl, u79⟩ zu79
  refine go ?_
  refine t_min rfl rfl rfl rfl ?_
  refine go ?_
  refine x_c func54 rfl rfl (rabsB_c ((tonK (-1) ((nth (lb ++ la) k).r) lb lb.length) - (tonK 1 ((nth (lb ++ la) k).r) la la.length)) _ (by omega)) ?_
  rintro _ w84 ⟨rfl, u85⟩ zu85
  refine t_same 77 (v := .int .i64 (max ((tonK (-1) (nth (lb ++ la) k).r lb lb.length) - (tonK 1 (nth (lb ++ la) k).r la la.length)) ((tonK 1 (nth (lb ++ la) k).r la la.length) - (tonK (-1) (nth (lb ++ la) k).r lb lb.length)))) rfl (congrArg (Value.int .i64) (by omega)) ?_
  iterate 4 refine st1 ?_
  refine x_k1 (fun _ => False) [0, 1, 7, 9, 10, 11, 12, 13, 16, 17] (fun (qs : Bool) => [(104, .bool qs)]) (fun qs w => (qs = true ↔ (scC be mo le (nth (lb ++ la) k).r (min (tonK (-1) (nth (lb ++ la) k).r lb lb.length) (tonK 1 (nth (lb ++ la) k).r la la.length)) (max ((tonK (-1) (nth (lb ++ la) k).r lb lb.length) - (tonK 1 (nth (lb ++ la) k).r la la.length)) ((tonK 1 (nth (lb ++ la) k).r la la.length) - (tonK (-1) (nth (lb ++ la) k).r lb lb.length)))))) (fun K92 hK92 => ?_) ?_
  ·
   refine go ?_
   refine t_splitp 81 rfl (fun g81 => ?_) (fun g81 => ?_)
   ·
    refine go ?_
    exact hK92 true (⟨fun _ => (by unfold scC; omega), fun _ => rfl⟩)
   refine go ?_
   refine t_splitp 85 rfl (fun g85 => ?_) (fun g85 => ?_)
   ·
    refine go ?_
    refine t_splitp 89 rfl (fun g89 => ?_) (fun g89 => ?_)
    ·
     refine go ?_
     refine t_splitp 93 rfl (fun g93 => ?_) (fun g93 => ?_)
     ·
      refine go ?_
      exact hK92 true (⟨fun _ => (by unfold scC; omega), fun _ => rfl⟩)
     refine go ?_
     refine t_splitp 97 rfl (fun g97 => ?_) (fun g97 => ?_)
     ·
      refine go ?_
      exact hK92 (decide ((nth (lb ++ la) k).r < be)) (by rw [decide_eq_true_eq]; unfold scC; omega)
     refine go ?_
     exact hK92 false (⟨fun h => (by cases h), fun h => absurd h (by unfold scC; omega)⟩)
    refine go ?_
    exact hK92 false (⟨fun h => (by cases h), fun h => absurd h (by unfold scC; omega)⟩)
   refine go ?_
   exact hK92 false (⟨fun h => (by cases h), fun h => absurd h (by unfold scC; omega)⟩)
  rintro qs w93 hqs u94 zu94
  refine q_b (fun g104 => ?_) fun g104 => ?_
  ·
   refine go ?_
   exact hK61 (k + 1) ((nth (lb ++ la) k).r) (min (tonK (-1) ((nth (lb ++ la) k).r) lb lb.length) (tonK 1 ((nth (lb ++ la) k).r) la la.length)) (max ((tonK (-1) (nth (lb ++ la) k).r lb lb.length) - (tonK 1 (nth (lb ++ la) k).r la la.length)) ((tonK 1 (nth (lb ++ la) k).r la la.length) - (tonK (-1) (nth (lb ++ la) k).r lb lb.length))) ⟨(by omega), ((hsc.step hck (by omega)).1 (hqs.1 g104))⟩
  refine go ?_
  exact hK61 (k + 1) be mo le ⟨(by omega), ((hsc.step hck (by omega)).2 (fun q => by rw [hqs.2 q] at g104; cases g104))⟩
 have hkl : k = (lb ++ la).length := by omega
 rw [hkl] at hsc
 obtain ⟨hsf1, hsf2⟩ := hsc.fin hokal
 refine go ?_
 refine q_p (fun g109 => ?_) fun g109 => ?_
 ·
  refine go ?_
  refine f_ret3 (v1 := .int .i64 0) (v2 := .slice none 0 0) (v3 := .int .i64 7) results14 rfl rfl rfl ?_
  exact ⟨⟨0, [], none, 0, 0, 7, rfl, Sl.nil _ _ _ _ _ _, ⟨by unfold mtErr; rw [if_neg (by omega), if_neg hanyf, if_neg hnd9, if_pos (hsf1 (by omega))], .inl ⟨by decide, rfl, rfl⟩⟩⟩, u_d⟩
 obtain ⟨hmb, hmo0, hcr0⟩ := hsf2 (by omega)
 have hbe : be = (mtBest lb la).p := by rw [hmb]
 have hmo : mo = (mtBest lb la).t := by rw [hmb]
 have hbp9 := (mtBest_ok hokal hcr0).2
 rw [← hbe] at hbp9
 refine go ?_
 refine x_c func55 rfl rfl (rsorted_c lb ab bb ob cb be (-1) _ (hlb.keep E64.u (fun _ h => h)) (by omega) (.inr rfl) hbp9 (fun x hx => hokal x (List.mem_append_left _ hx)) hq1 (by omega)) ?_
 rintro _ w101 ⟨⟨yb, ayb, gyb, cyb, rfl, hyb, hpb, hsb⟩, u102⟩ zu102
 have lt_gyb := hyb.lt
 refine go ?_
 refine x_c func55 rfl rfl (rsorted_c la aa ba oa ca be 1 _ (hla.keep (E64.u.nx u102) (fun _ h => h)) (by omega) (.inl rfl) hbp9 (fun x hx => hokal x (List.mem_append_right _ hx)) hq2 (by omega)) ?_
 rintro _ w106 ⟨⟨ya, aya, gya, cya, rfl, hya, hpa, hsa⟩, u107⟩ zu107
 have lt_gya := hya.lt
 refine x_l fun bk110 w111 ebk110 sbk110 B112 u113 => ?_
 refine go ?_
 have D116 := ((hyb.keep u107 (fun _ h => h)).keep u113 (fun _ h => h))
 have D117 := (hya.keep u113 (fun _ h => h))
 rw [hbe] at hpb hpa
 have hmt0 := MtOk.init hokal hcr0 hpb hpa
 have hyb9 := D116
 have hya9 := D117
 have hMp : 0 < (mtBest lb la).t := by omega
 have hyb0 : 0 < yb.length := head_lt hMp hmt0.sb
 have hya0 : 0 < ya.length := head_lt hMp hmt0.sa
 have hMle : (mtBest lb la).t ≤ 1000000000 := by
   have := (tonK_bd (sg := -1) (p := (mtBest lb la).p) (l := lb) (fun x hx => hokal x (List.mem_append_left _ hx)) (Nat.le_refl _)).2; have := (mtBest_t hokal hcr0).1; omega
 have hlb9 : yb.length ≤ 30 := by rw [hpb.length_eq]; exact Nat.le_trans (List.length_filter_le _ _) (by omega)
 have hla9 : ya.length ≤ 30 := by rw [hpa.length_eq]; exact Nat.le_trans (List.length_filter_le _ _) (by omega)
 have hgb9 := hyb9.ge hyb0
 have hga9 := hya9.ge hya0
 have hcb9 := hyb9.cap_le
 have hca9 := hya9.cap_le
 have lgb9 := hyb9.lt
 have lga9 := hya9.lt
 have lgb8 := hyb.lt
 have lga8 := hya.lt
 refine q_loop (γ := Nat × Option Addr × Option Addr × Option Addr × Nat × Nat) (fun gg => [(9, .int .i64 be), (18, .slice gg.2.1 ((List.drop (mtS (mtBest lb la).t yb ya gg.1).ib (mtS (mtBest lb la).t yb ya gg.1).zb).length) (cyb - (mtS (mtBest lb la).t yb ya gg.1).ib)), (19, .slice gg.2.2.1 ((List.drop (mtS (mtBest lb la).t yb ya gg.1).ia (mtS (mtBest lb la).t yb ya gg.1).za).length) (cya - (mtS (mtBest lb la).t yb ya gg.1).ia)), (20, .slice gg.2.2.2.1 ((mtS (mtBest lb la).t yb ya gg.1).ts.length) gg.2.2.2.2.2), (21, .int .i64 ((mtS (mtBest lb la).t yb ya gg.1).l))]) (fun gg w => Upd (fun i => i = gyb ∨ i = gya ∨ bk110 ≤ i) w111 w ∧ (MtOk yb.length ya.length (mtS (mtBest lb la).t yb ya gg.1)) ∧ (Wr encBid 4 30 w gyb (mtS (mtBest lb la).t yb ya gg.1).zb) ∧ (Wr encBid 4 30 w gya (mtS (mtBest lb la).t yb ya gg.1).za) ∧ ((mtS (mtBest lb la).t yb ya gg.1).ib < List.length (mtS (mtBest lb la).t yb ya gg.1).zb → gg.2.1 = some ⟨gyb, (mtS (mtBest lb la).t yb ya gg.1).ib * 4, none⟩) ∧ ((mtS (mtBest lb la).t yb ya gg.1).ia < List.length (mtS (mtBest lb la).t yb ya gg.1).za → gg.2.2.1 = some ⟨gya, (mtS (mtBest lb la).t yb ya gg.1).ia * 4, none⟩) ∧ (Acc encTrd 3 32 bk110 w gg.2.2.2.1 gg.2.2.2.2.1 gg.2.2.2.2.2 (mtS (mtBest lb la).t yb ya gg.1).ts) ∧ (∀ j, j < gg.1 → 0 < (mtS (mtBest lb la).t yb ya j).l) ∧ ((mtS (mtBest lb la).t yb ya gg.1).l ≤ 1000000000)) (fun gg => (mtS (mtBest lb la).t yb ya gg.1).l.toNat) (0, ayb, aya, some ⟨bk110, 0, none⟩, bk110, 0) ⟨rfl, rfl, rfl, rfl, (congrArg (fun z => some (Value.int .i64 z)) hmo), trivial⟩ ⟨Upd.refl _ _, hmt0, (hyb9.wr (fun _ => rfl)), (hya9.wr (fun _ => rfl)), (fun h => by rw [show (mtS (mtBest lb la).t yb ya 0).ib * 4 = 0 from rfl]; exact (hyb9.sl (fun _ => rfl)).addr h), (fun h => by rw [show (mtS (mtBest lb la).t yb ya 0).ia * 4 = 0 from rfl]; exact (hya9.sl (fun _ => rfl)).addr h), (Acc.ofBlk (xs := ([] : List Trd)) encTrd 3 (fun _ => rfl) B112 (Nat.le_refl _) (by decide)), (fun j h => absurd h (Nat.not_lt_zero j)), hMle⟩ ?_
 intro gg w119 hW K118 hK118
 obtain ⟨k, a1, a2, ao, gt, ct⟩ := gg
 change WC _ _ _ _ _ _ [(9, .int .i64 be), (18, .slice a1 ((List.drop (mtS (mtBest lb la).t yb ya k).ib (mtS (mtBest lb la).t yb ya k).zb).length) (cyb - (mtS (mtBest lb la).t yb ya k).ib)), (19, .slice a2 ((List.drop (mtS (mtBest lb la).t yb ya k).ia (mtS (mtBest lb la).t yb ya k).za).length) (cya - (mtS (mtBest lb la).t yb ya k).ia)), (20, .slice ao ((mtS (mtBest lb la).t yb ya k).ts.length) ct), (21, .int .i64 ((mtS (mtBest lb la).t yb ya k).l))] _
 change Upd (fun i => i = gyb ∨ i = gya ∨ bk110 ≤ i) w111 w119 ∧ (MtOk yb.length ya.length (mtS (mtBest lb la).t yb ya k)) ∧ (Wr encBid 4 30 w119 gyb (mtS (mtBest lb la).t yb ya k).zb) ∧ (Wr encBid 4 30 w119 gya (mtS (mtBest lb la).t yb ya k).za) ∧ ((mtS (mtBest lb la).t yb ya k).ib < List.length (mtS (mtBest lb la).t yb ya k).zb → a1 = some ⟨gyb, (mtS (mtBest lb la).t yb ya k).ib * 4, none⟩) ∧ ((mtS (mtBest lb la).t yb ya k).ia < List.length (mtS (mtBest lb la).t yb ya k).za → a2 = some ⟨gya, (mtS (mtBest lb la).t yb ya k).ia * 4, none⟩) ∧ (Acc encTrd 3 32 bk110 w119 ao gt ct (mtS (mtBest lb la).t yb ya k).ts) ∧ (∀ j, j < k → 0 < (mtS (mtBest lb la).t yb ya j).l) ∧ ((mtS (mtBest lb la).t yb ya k).l ≤ 1000000000) at hW
 obtain ⟨u120, I121, I122, I123, I124, I125, I126, I127, I128⟩ := hW
 have zu120 := u120.size
 have hmt := I121; clear I121
 have hzb := I122; clear I122
 have hza := I123; clear I123
 have hadrb := I124; clear I124
 have hadra := I125; clear I125
 have htr := I126; clear I126
 have hall9 := I127; clear I127
 have hlle := I128; clear I128
 have lt_gt := htr.lt
 refine go ?_
 refine q_p (fun g119 => ?_) fun g119 => ?_
 ·
  obtain ⟨hib, hia, hnb, hna, hn1, hn2, hn3, hn4, _⟩ := hmt.heads g119
  have hdb : (List.drop (mtS (mtBest lb la).t yb ya k).ib (mtS (mtBest lb la).t yb ya k).zb).length = (mtS (mtBest lb la).t yb ya k).zb.length - (mtS (mtBest lb la).t yb ya k).ib := List.length_drop
  have hda : (List.drop (mtS (mtBest lb la).t yb ya k).ia (mtS (mtBest lb la).t yb ya k).za).length = (mtS (mtBest lb la).t yb ya k).za.length - (mtS (mtBest lb la).t yb ya k).ia := List.length_drop
  have eb0 : nth (List.drop (mtS (mtBest lb la).t yb ya k).ib (mtS (mtBest lb la).t yb ya k).zb) 0 = nth (mtS (mtBest lb la).t yb ya k).zb (mtS (mtBest lb la).t yb ya k).ib := by rw [nth_drop, Nat.add_zero]
  have ea0 : nth (List.drop (mtS (mtBest lb la).t yb ya k).ia (mtS (mtBest lb la).t yb ya k).za) 0 = nth (mtS (mtBest lb la).t yb ya k).za (mtS (mtBest lb la).t yb ya k).ia := by rw [nth_drop, Nat.add_zero]
  have eb1 : nth (List.drop (mtS (mtBest lb la).t yb ya k).ib (takeZ (mtS (mtBest lb la).t yb ya k).zb (mtS (mtBest lb la).t yb ya k).ib (mtN (mtS (mtBest lb la).t yb ya k)))) 0 = takeB (nth (mtS (mtBest lb la).t yb ya k).zb (mtS (mtBest lb la).t yb ya k).ib) (mtN (mtS (mtBest lb la).t yb ya k)) := by rw [nth_drop, Nat.add_zero, takeZ_nth hib]
  have ea1 : nth (List.drop (mtS (mtBest lb la).t yb ya k).ia (takeZ (mtS (mtBest lb la).t yb ya k).za (mtS (mtBest lb la).t yb ya k).ia (mtN (mtS (mtBest lb la).t yb ya k)))) 0 = takeB (nth (mtS (mtBest lb la).t yb ya k).za (mtS (mtBest lb la).t yb ya k).ia) (mtN (mtS (mtBest lb la).t yb ya k)) := by rw [nth_drop, Nat.add_zero, takeZ_nth hia]
  have hdbz : (List.drop (mtS (mtBest lb la).t yb ya k).ib (takeZ (mtS (mtBest lb la).t yb ya k).zb (mtS (mtBest lb la).t yb ya k).ib (mtN (mtS (mtBest lb la).t yb ya k)))).length = (mtS (mtBest lb la).t yb ya k).zb.length - (mtS (mtBest lb la).t yb ya k).ib := by rw [List.length_drop, takeZ_len]
  have hdaz : (List.drop (mtS (mtBest lb la).t yb ya k).ia (takeZ (mtS (mtBest lb la).t yb ya k).za (mtS (mtBest lb la).t yb ya k).ia (mtN (mtS (mtBest lb la).t yb ya k)))).length = (mtS (mtBest lb la).t yb ya k).za.length - (mtS (mtBest lb la).t yb ya k).ia := by rw [List.length_drop, takeZ_len]
  have htl9 := hmt.tl g119
  have hib9 := hmt.ib
  have hia9 := hmt.ia
  have hqb9 := hmt.qb
  have hqa9 := hmt.qa
  refine go ?_
  refine c_drawnM follows (fun _ => False) (OTl [0, 2, 4, 6, 8, 10, 12, 14, 16, 19, 20]) (by kernel_rfl) fun w133 u134 => ?_
  have zu134 := u134.size
  refine go ?_
  have D136 := (hzb.keep u134 (fun _ h => h))
  refine y_i 0 (Wr.slD D136 hadrb) (fun _ => ?_)
  iterate 2 refine st1 ?_
  refine y_same 123 (v := .int .i64 ((nth (mtS (mtBest lb la).t yb ya k).zb (mtS (mtBest lb la).t yb ya k).ib).n)) rfl (by rw [eb0]) ?_
  refine go ?_
  have D138 := (hza.keep u134 (fun _ h => h))
  refine y_i 0 (Wr.slD D138 hadra) (fun _ => ?_)
  iterate 2 refine st1 ?_
  refine y_same 127 (v := .int .i64 ((nth (mtS (mtBest lb la).t yb ya k).za (mtS (mtBest lb la).t yb ya k).ia).n)) rfl (by rw [ea0]) ?_
  refine go ?_
  refine t_min3 rfl rfl rfl rfl rfl (t_same 129 (v := .int .i64 (mtN (mtS (mtBest lb la).t yb ya k))) rfl (congrArg (Value.int .i64) (by unfold mtN; omega)) ?_)
  refine go ?_
  refine c_drawnM follows (fun i => (i = gt ∧ bk110 ≤ i)) (OTl [0, 2, 4, 6, 8, 10, 12, 14, 16, 18, 20, 23, 25, 26]) (by kernel_rfl) fun w141 u142 => ?_
  have zu142 := u142.size
  refine go ?_
  have D144 := (D136.keep u142 (fun _ h => h))
  refine y_i 0 (Wr.slD D144 hadrb) (fun _ => ?_)
  iterate 2 refine st1 ?_
  refine y_same 134 (v := .int .i64 ((nth (mtS (mtBest lb la).t yb ya k).zb (mtS (mtBest lb la).t yb ya k).ib).p)) rfl (by rw [eb0]) ?_
  refine go ?_
  have D146 := (D138.keep u142 (fun _ h => h))
  refine y_i 0 (Wr.slD D146 hadra) (fun _ => ?_)
  iterate 2 refine st1 ?_
  refine y_same 138 (v := .int .i64 ((nth (mtS (mtBest lb la).t yb ya k).za (mtS (mtBest lb la).t yb ya k).ia).p)) rfl (by rw [ea0]) ?_
  refine go ?_
  refine x_l fun bk148 w149 ebk148 sbk148 B150 u151 => ?_
  refine go ?_
  have D153 := (((htr.keep u134 (fun _ h => h)).keep u142 (fun _ h => h)).keep u151 (fun _ h => h))
  refine t_append (z := .agg #[.int .i64 0, .int .i64 0, .int .i64 0]) (bytes := 24) (k := 3) (base := bk110) (⟨(nth (mtS (mtBest lb la).t yb ya k).zb (mtS (mtBest lb la).t yb ya k).ib).p, (nth (mtS (mtBest lb la).t yb ya k).za (mtS (mtBest lb la).t yb ya k).ia).p, mtN (mtS (mtBest lb la).t yb ya k)⟩ : Trd) underlying25 (by kernel_rfl) rfl (by decide) (fun _ => rfl) (by intro x; simp [encTrd, Value.oneCell']) rfl rfl rfl rfl D153 B150 (by omega) (by omega) (by decide) (fun ao154 gb155 cp156 w157 A158 u159 gegb155 lngb155 => ?_)
  have zu159 := u159.size
  have lt_gb155 := A158.lt
  refine go ?_
  refine c_drawnM follows (fun i => i = gyb ∨ i = gya) (.look 0 (.look 1 (.look 2 (.look 3 (.look 4 (.look 6 (.look 8 (.look 9 (.look 10 (.look 12 (.look 14 (.look 15 (.look 16 (.act 5 (.look 7 (.act 11 (.look 13 (.look 17 (.look 18 (.act 19 (.act 20 (.look 21 (.act 22 (.look 23 .done) .stop)) .stop) .stop)))) .stop)) (.act 11 (.look 13 (.act 5 (.look 7 (.look 17 (.look 18 (.act 19 (.act 20 (.look 21 (.act 22 (.look 23 .done) .stop)) .stop) .stop)))) .stop)) .stop))))))))))))))) (by kernel_rfl) fun w162 u163 => ?_
  have zu163 := u163.size
  refine go ?_
  have D165 := (((D144.keep u151 (fun _ h => h)).keep u159 (fun _ => show ¬ ((gyb = gt ∧ bk110 ≤ gyb)) by omega)).keep u163 (fun _ h => h))
  refine y_i 0 (Wr.slD D165 hadrb) (fun _ => ?_)
  refine go ?_
  have D167 := (((D146.keep u151 (fun _ h => h)).keep u159 (fun _ => show ¬ ((gya = gt ∧ bk110 ≤ gya)) by omega)).keep u163 (fun _ h => h))
  refine y_i 0 (Wr.slD D167 hadra) (fun _ => ?_)
  refine go ?_
  refine s_or ?_ ?_
  ·
   iterate 2 refine st1 ?_
   refine t_same 148 (v := .int .i64 ((nth (mtS (mtBest lb la).t yb ya k).zb (mtS (mtBest lb la).t yb ya k).ib).n)) rfl (by rw [eb0]) ?_
   iterate 4 refine st1 ?_
   refine t_same 154 (v := .int .i64 ((nth (mtS (mtBest lb la).t yb ya k).za (mtS (mtBest lb la).t yb ya k).ia).n)) rfl (by rw [ea0]) ?_
   refine go ?_
   refine y_i 0 (Wr.slD D165 hadrb) (fun _ => ?_)
   refine go ?_
   refine t_storeW (enc := encBid) (vs := [.int .i64 ((nth (mtS (mtBest lb la).t yb ya k).zb (mtS (mtBest lb la).t yb ya k).ib).n - (mtN (mtS (mtBest lb la).t yb ya k)))]) (j := (mtS (mtBest lb la).t yb ya k).ib) (o' := 1) (k := 4) (takeB (nth (mtS (mtBest lb la).t yb ya k).zb (mtS (mtBest lb la).t yb ya k).ib) (mtN (mtS (mtBest lb la).t yb ya k))) (fun _ => rfl) sizeOf3 rfl rfl (by omega) rfl D165 hib rfl rfl (by decide) (by simp [Value.oneCell']) rfl (fun w170 R172 u171 => ?_)
   have zu171 := u171.size
   have Z174 : Wr encBid 4 30 w170 gyb (takeZ (mtS (mtBest lb la).t yb ya k).zb (mtS (mtBest lb la).t yb ya k).ib (mtN (mtS (mtBest lb la).t yb ya k))) := R172
   refine go ?_
   have D175 := (D167.keep u171 (fun _ => show ¬ (gya = gyb) by omega))
   refine g_i 0 (Wr.slD D175 hadra) (fun _ => ?_)
   refine go ?_
   refine t_storeW (enc := encBid) (vs := [.int .i64 ((nth (mtS (mtBest lb la).t yb ya k).za (mtS (mtBest lb la).t yb ya k).ia).n - (mtN (mtS (mtBest lb la).t yb ya k)))]) (j := (mtS (mtBest lb la).t yb ya k).ia) (o' := 1) (k := 4) (takeB (nth (mtS (mtBest lb la).t yb ya k).za (mtS (mtBest lb la).t yb ya k).ia) (mtN (mtS (mtBest lb la).t yb ya k))) (fun _ => rfl) sizeOf3 rfl rfl (by omega) rfl D175 hia rfl rfl (by decide) (by simp [Value.oneCell']) rfl (fun w177 R179 u178 => ?_)
   have zu178 := u178.size
   have Z181 : Wr encBid 4 30 w177 gya (takeZ (mtS (mtBest lb la).t yb ya k).za (mtS (mtBest lb la).t yb ya k).ia (mtN (mtS (mtBest lb la).t yb ya k))) := R179
   iterate 4 refine st1 ?_
   refine x_k1 (fun _ => False) [9, 19, 20, 21] (fun (adb : Option Addr) => [(18, .slice adb ((List.drop (takeI (mtS (mtBest lb la).t yb ya k).zb (mtS (mtBest lb la).t yb ya k).ib (mtN (mtS (mtBest lb la).t yb ya k))) (takeZ (mtS (mtBest lb la).t yb ya k).zb (mtS (mtBest lb la).t yb ya k).ib (mtN (mtS (mtBest lb la).t yb ya k)))).length) (cyb - (takeI (mtS (mtBest lb la).t yb ya k).zb (mtS (mtBest lb la).t yb ya k).ib (mtN (mtS (mtBest lb la).t yb ya k)))))]) (fun adb w => ((takeI (mtS (mtBest lb la).t yb ya k).zb (mtS (mtBest lb la).t yb ya k).ib (mtN (mtS (mtBest lb la).t yb ya k))) < List.length (takeZ (mtS (mtBest lb la).t yb ya k).zb (mtS (mtBest lb la).t yb ya k).ib (mtN (mtS (mtBest lb la).t yb ya k))) → adb = some ⟨gyb, (takeI (mtS (mtBest lb la).t yb ya k).zb (mtS (mtBest lb la).t yb ya k).ib (mtN (mtS (mtBest lb la).t yb ya k))) * 4, none⟩)) (fun K186 hK186 => ?_) ?_
   ·
    refine go ?_
    have D190 := (Z174.keep u178 (fun _ => show ¬ (gyb = gya) by omega))
    refine g_i 0 (Wr.slD D190 (fun _ => hadrb hib)) (fun _ => ?_)
    iterate 2 refine st1 ?_
    refine t_same 167 (v := .int .i64 ((nth (mtS (mtBest lb la).t yb ya k).zb (mtS (mtBest lb la).t yb ya k).ib).n - (mtN (mtS (mtBest lb la).t yb ya k)))) rfl (by rw [eb1]; rfl) ?_
    refine go ?_
    refine q_p (fun g168 => ?_) fun g168 => ?_
    ·
     refine go ?_
     refine t_sliceFrom (1) underlying22 sizeOf30 rfl rfl rfl rfl rfl (by omega) (by omega) ?_
     refine go ?_
     have hti : (takeI (mtS (mtBest lb la).t yb ya k).zb (mtS (mtBest lb la).t yb ya k).ib (mtN (mtS (mtBest lb la).t yb ya k))) = (mtS (mtBest lb la).t yb ya k).ib + 1 := if_pos g168
     exact hK186 (subAddr a1 (cyb - (mtS (mtBest lb la).t yb ya k).ib) 1 4) (fun h => by rw [hti] at h ⊢; exact take_sub hib (hadrb hib) (by omega) (by rwa [takeZ_len] at h)) (hs := by exact ⟨(congrArg some (by first | (rw [hti, List.length_drop, List.length_drop, takeZ_len, Nat.sub_sub, Nat.sub_sub]) | (rw [hti, List.length_drop, List.length_drop, takeZ_len]))), rfl, rfl, rfl, rfl, trivial⟩)
    refine go ?_
    have hti : (takeI (mtS (mtBest lb la).t yb ya k).zb (mtS (mtBest lb la).t yb ya k).ib (mtN (mtS (mtBest lb la).t yb ya k))) = (mtS (mtBest lb la).t yb ya k).ib := if_neg g168
    exact hK186 a1 (fun h => by rw [hti] at h ⊢; exact hadrb hib) (hs := by exact ⟨(congrArg some (by first | (rw [hti, List.length_drop, List.length_drop, takeZ_len, Nat.sub_sub, Nat.sub_sub]) | (rw [hti, List.length_drop, List.length_drop, takeZ_len]))), rfl, rfl, rfl, rfl, trivial⟩)
   rintro adb w187 hadbn u188 zu188
   refine go ?_
   have D194 := (Z181.keep u188 (fun _ h => h))
   refine g_i 0 (Wr.slD D194 (fun _ => hadra hia)) (fun _ => ?_)
   iterate 2 refine st1 ?_
   refine t_same 174 (v := .int .i64 ((nth (mtS (mtBest lb la).t yb ya k).za (mtS (mtBest lb la).t yb ya k).ia).n - (mtN (mtS (mtBest lb la).t yb ya k)))) rfl (by rw [ea1]; rfl) ?_
   refine go ?_
   refine q_p (fun g175 => ?_) fun g175 => ?_
   ·
    refine go ?_
    refine t_sliceFrom (1) underlying22 sizeOf30 rfl rfl rfl rfl rfl (by omega) (by omega) ?_
    refine go ?_
    have hti : (takeI (mtS (mtBest lb la).t yb ya k).za (mtS (mtBest lb la).t yb ya k).ia (mtN (mtS (mtBest lb la).t yb ya k))) = (mtS (mtBest lb la).t yb ya k).ia + 1 := if_pos g175
    have D196 := ((Z174.keep u178 (fun _ => show ¬ (gyb = gya) by omega)).keep u188 (fun _ h => h))
    have D197 := ((((A158.keep u163 (fun _ h => h)).keep u171 (fun hb => show ¬ (gb155 = gyb) by first | omega | assumption)).keep u178 (fun hb => show ¬ (gb155 = gya) by first | omega | assumption)).keep u188 (fun _ h => h))
    exact hK118 (k + 1, adb, subAddr a2 (cya - (mtS (mtBest lb la).t yb ya k).ia) 1 4, ao154, gb155, cp156) _ _ (by show ((mtS (mtBest lb la).t yb ya k).l - (mtN (mtS (mtBest lb la).t yb ya k))).toNat < (mtS (mtBest lb la).t yb ya k).l.toNat; omega) ⟨rfl, rfl, (congrArg some (by first | (rw [show (mtS (mtBest lb la).t yb ya (k + 1)).ia = (mtS (mtBest lb la).t yb ya k).ia + 1 from hti, show (mtS (mtBest lb la).t yb ya (k + 1)).za = (takeZ (mtS (mtBest lb la).t yb ya k).za (mtS (mtBest lb la).t yb ya k).ia (mtN (mtS (mtBest lb la).t yb ya k))) from rfl, List.length_drop, List.length_drop, takeZ_len, Nat.sub_sub, Nat.sub_sub]) | (rw [show (mtS (mtBest lb la).t yb ya (k + 1)).ia = (mtS (mtBest lb la).t yb ya k).ia from hti, show (mtS (mtBest lb la).t yb ya (k + 1)).za = (takeZ (mtS (mtBest lb la).t yb ya k).za (mtS (mtBest lb la).t yb ya k).ia (mtN (mtS (mtBest lb la).t yb ya k))) from rfl, List.length_drop, List.length_drop, takeZ_len]))), rfl, rfl, trivial⟩ ⟨((((((((u120.nx u134).nx u142).nx u151).next u159 (fun i hi (h : (i = gt ∧ bk110 ≤ i)) => show i = gyb ∨ i = gya ∨ bk110 ≤ i by first | omega | assumption)).nx u163).next u171 (fun i hi (h : i = gyb) => show i = gyb ∨ i = gya ∨ bk110 ≤ i by first | omega | assumption)).next u178 (fun i hi (h : i = gya) => show i = gyb ∨ i = gya ∨ bk110 ≤ i by first | omega | assumption)).nx u188), (hmt.step g119), D196, D194, hadbn, (fun h => by rw [show (mtS (mtBest lb la).t yb ya (k + 1)).ia = (mtS (mtBest lb la).t yb ya k).ia + 1 from hti] at h ⊢; exact take_sub hia (hadra hia) (by omega) (by rwa [show (mtS (mtBest lb la).t yb ya (k + 1)).za = (takeZ (mtS (mtBest lb la).t yb ya k).za (mtS (mtBest lb la).t yb ya k).ia (mtN (mtS (mtBest lb la).t yb ya k))) from rfl, takeZ_len] at h)), D197, (fun j h => (Nat.lt_succ_iff_lt_or_eq.1 h).elim (hall9 j) (fun e => e ▸ g119)), (by show (mtS (mtBest lb la).t yb ya k).l - (mtN (mtS (mtBest lb la).t yb ya k)) ≤ _; omega)⟩
   refine go ?_
   have hti : (takeI (mtS (mtBest lb la).t yb ya k).za (mtS (mtBest lb la).t yb ya k).ia (mtN (mtS (mtBest lb la).t yb ya k))) = (mtS (mtBest lb la).t yb ya k).ia := if_neg g175
   have D198 := ((Z174.keep u178 (fun _ => show ¬ (gyb = gya) by omega)).keep u188 (fun _ h => h))
   have D199 := ((((A158.keep u163 (fun _ h => h)).keep u171 (fun hb => show ¬ (gb155 = gyb) by first | omega | assumption)).keep u178 (fun hb => show ¬ (gb155 = gya) by first | omega | assumption)).keep u188 (fun _ h => h))
   exact hK118 (k + 1, adb, a2, ao154, gb155, cp156) _ _ (by show ((mtS (mtBest lb la).t yb ya k).l - (mtN (mtS (mtBest lb la).t yb ya k))).toNat < (mtS (mtBest lb la).t yb ya k).l.toNat; omega) ⟨rfl, rfl, (congrArg some (by first | (rw [show (mtS (mtBest lb la).t yb ya (k + 1)).ia = (mtS (mtBest lb la).t yb ya k).ia + 1 from hti, show (mtS (mtBest lb la).t yb ya (k + 1)).za = (takeZ (mtS (mtBest lb la).t yb ya k).za (mtS (mtBest lb la).t yb ya k).ia (mtN (mtS (mtBest lb la).t yb ya k))) from rfl, List.length_drop, List.length_drop, takeZ_len, Nat.sub_sub, Nat.sub_sub]) | (rw [show (mtS (mtBest lb la).t yb ya (k + 1)).ia = (mtS (mtBest lb la).t yb ya k).ia from hti, show (mtS (mtBest lb la).t yb ya (k + 1)).za = (takeZ (mtS (mtBest lb la).t yb ya k).za (mtS (mtBest lb la).t yb ya k).ia (mtN (mtS (mtBest lb la).t yb ya k))) from rfl, List.length_drop, List.length_drop, takeZ_len]))), rfl, rfl, trivial⟩ ⟨((((((((u120.nx u134).nx u142).nx u151).next u159 (fun i hi (h : (i = gt ∧ bk110 ≤ i)) => show i = gyb ∨ i = gya ∨ bk110 ≤ i by first | omega | assumption)).nx u163).next u171 (fun i hi (h : i = gyb) => show i = gyb ∨ i = gya ∨ bk110 ≤ i by first | omega | assumption)).next u178 (fun i hi (h : i = gya) => show i = gyb ∨ i = gya ∨ bk110 ≤ i by first | omega | assumption)).nx u188), (hmt.step g119), D198, D194, hadbn, (fun h => by rw [show (mtS (mtBest lb la).t yb ya (k + 1)).ia = (mtS (mtBest lb la).t yb ya k).ia from hti] at h ⊢; exact hadra hia), D199, (fun j h => (Nat.lt_succ_iff_lt_or_eq.1 h).elim (hall9 j) (fun e => e ▸ g119)), (by show (mtS (mtBest lb la).t yb ya k).l - (mtN (mtS (mtBest lb la).t yb ya k)) ≤ _; omega)⟩
  iterate 2 refine st1 ?_
  refine t_same 154 (v := .int .i64 ((nth (mtS (mtBest lb la).t yb ya k).za (mtS (mtBest lb la).t yb ya k).ia).n)) rfl (by rw [ea0]) ?_
  iterate 4 refine st1 ?_
  refine t_same 148 (v := .int .i64 ((nth (mtS (mtBest lb la).t yb ya k).zb (mtS (mtBest lb la).t yb ya k).ib).n)) rfl (by rw [eb0]) ?_
  refine go ?_
  refine y_i 0 (Wr.slD D165 hadrb) (fun _ => ?_)
  refine go ?_
  refine t_storeW (enc := encBid) (vs := [.int .i64 ((nth (mtS (mtBest lb la).t yb ya k).zb (mtS (mtBest lb la).t yb ya k).ib).n - (mtN (mtS (mtBest lb la).t yb ya k)))]) (j := (mtS (mtBest lb la).t yb ya k).ib) (o' := 1) (k := 4) (takeB (nth (mtS (mtBest lb la).t yb ya k).zb (mtS (mtBest lb la).t yb ya k).ib) (mtN (mtS (mtBest lb la).t yb ya k))) (fun _ => rfl) sizeOf3 rfl rfl (by omega) rfl D165 hib rfl rfl (by decide) (by simp [Value.oneCell']) rfl (fun w201 R203 u202 => ?_)
  have zu202 := u202.size
  have Z205 : Wr encBid 4 30 w201 gyb (takeZ (mtS (mtBest lb la).t yb ya k).zb (mtS (mtBest lb la).t yb ya k).ib (mtN (mtS (mtBest lb la).t yb ya k))) := R203
  refine go ?_
  have D206 := (D167.keep u202 (fun _ => show ¬ (gya = gyb) by omega))
  refine g_i 0 (Wr.slD D206 hadra) (fun _ => ?_)
  refine go ?_
  refine t_storeW (enc := encBid) (vs := [.int .i64 ((nth (mtS (mtBest lb la).t yb ya k).za (mtS (mtBest lb la).t yb ya k).ia).n - (mtN (mtS (mtBest lb la).t yb ya k)))]) (j := (mtS (mtBest lb la).t yb ya k).ia) (o' := 1) (k := 4) (takeB (nth (mtS (mtBest lb la).t yb ya k).za (mtS (mtBest lb la).t yb ya k).ia) (mtN (mtS (mtBest lb la).t yb ya k))) (fun _ => rfl) sizeOf3 rfl rfl (by omega) rfl D206 hia rfl rfl (by decide) (by simp [Value.oneCell']) rfl (fun w208 R210 u209 => ?_)
  have zu209 := u209.size
  have Z212 : Wr encBid 4 30 w208 gya (takeZ (mtS (mtBest lb la).t yb ya k).za (mtS (mtBest lb la).t yb ya k).ia (mtN (mtS (mtBest lb la).t yb ya k))) := R210
  iterate 4 refine st1 ?_
  refine x_k1 (fun _ => False) [9, 19, 20, 21] (fun (adb : Option Addr) => [(18, .slice adb ((List.drop (takeI (mtS (mtBest lb la).t yb ya k).zb (mtS (mtBest lb la).t yb ya k).ib (mtN (mtS (mtBest lb la).t yb ya k))) (takeZ (mtS (mtBest lb la).t yb ya k).zb (mtS (mtBest lb la).t yb ya k).ib (mtN (mtS (mtBest lb la).t yb ya k)))).length) (cyb - (takeI (mtS (mtBest lb la).t yb ya k).zb (mtS (mtBest lb la).t yb ya k).ib (mtN (mtS (mtBest lb la).t yb ya k)))))]) (fun adb w => ((takeI (mtS (mtBest lb la).t yb ya k).zb (mtS (mtBest lb la).t yb ya k).ib (mtN (mtS (mtBest lb la).t yb ya k))) < List.length (takeZ (mtS (mtBest lb la).t yb ya k).zb (mtS (mtBest lb la).t yb ya k).ib (mtN (mtS (mtBest lb la).t yb ya k))) → adb = some ⟨gyb, (takeI (mtS (mtBest lb la).t yb ya k).zb (mtS (mtBest lb la).t yb ya k).ib (mtN (mtS (mtBest lb la).t yb ya k))) * 4, none⟩)) (fun K217 hK217 => ?_) ?_
  ·
   refine go ?_
   have D221 := (Z205.keep u209 (fun _ => show ¬ (gyb = gya) by omega))
   refine g_i 0 (Wr.slD D221 (fun _ => hadrb hib)) (fun _ => ?_)
   iterate 2 refine st1 ?_
   refine t_same 167 (v := .int .i64 ((nth (mtS (mtBest lb la).t yb ya k).zb (mtS (mtBest lb la).t yb ya k).ib).n - (mtN (mtS (mtBest lb la).t yb ya k)))) rfl (by rw [eb1]; rfl) ?_
   refine go ?_
   refine q_p (fun g168 => ?_) fun g168 => ?_
   ·
    refine go ?_
    refine t_sliceFrom (1) underlying22 sizeOf30 rfl rfl rfl rfl rfl (by omega) (by omega) ?_
    refine go ?_
    have hti : (takeI (mtS (mtBest lb la).t yb ya k).zb (mtS (mtBest lb la).t yb ya k).ib (mtN (mtS (mtBest lb la).t yb ya k))) = (mtS (mtBest lb la).t yb ya k).ib + 1 := if_pos g168
    exact hK217 (subAddr a1 (cyb - (mtS (mtBest lb la).t yb ya k).ib) 1 4) (fun h => by rw [hti] at h ⊢; exact take_sub hib (hadrb hib) (by omega) (by rwa [takeZ_len] at h)) (hs := by exact ⟨(congrArg some (by first | (rw [hti, List.length_drop, List.length_drop, takeZ_len, Nat.sub_sub, Nat.sub_sub]) | (rw [hti, List.length_drop, List.length_drop, takeZ_len]))), rfl, rfl, rfl, rfl, trivial⟩)
   refine go ?_
   have hti : (takeI (mtS (mtBest lb la).t yb ya k).zb (mtS (mtBest lb la).t yb ya k).ib (mtN (mtS (mtBest lb la).t yb ya k))) = (mtS (mtBest lb la).t yb ya k).ib := if_neg g168
   exact hK217 a1 (fun h => by rw [hti] at h ⊢; exact hadrb hib) (hs := by exact ⟨(congrArg some (by first | (rw [hti, List.length_drop, List.length_drop, takeZ_len, Nat.sub_sub, Nat.sub_sub]) | (rw [hti, List.length_drop, List.length_drop, takeZ_len]))), rfl, rfl, rfl, rfl, trivial⟩)
  rintro adb w218 hadbn u219 zu219
  refine go ?_
  have D225 := (Z212.keep u219 (fun _ h => h))
  refine g_i 0 (Wr.slD D225 (fun _ => hadra hia)) (fun _ => ?_)
  iterate 2 refine st1 ?_
  refine t_same 174 (v := .int .i64 ((nth (mtS (mtBest lb la).t yb ya k).za (mtS (mtBest lb la).t yb ya k).ia).n - (mtN (mtS (mtBest lb la).t yb ya k)))) rfl (by rw [ea1]; rfl) ?_
  refine go ?_
  refine q_p (fun g175 => ?_) fun g175 => ?_
  ·
   refine go ?_
   refine t_sliceFrom (1) underlying22 sizeOf30 rfl rfl rfl rfl rfl (by omega) (by omega) ?_
   refine go ?_
   have hti : (takeI (mtS (mtBest lb la).t yb ya k).za (mtS (mtBest lb la).t yb ya k).ia (mtN (mtS (mtBest lb la).t yb ya k))) = (mtS (mtBest lb la).t yb ya k).ia + 1 := if_pos g175
   have D227 := ((Z205.keep u209 (fun _ => show ¬ (gyb = gya) by omega)).keep u219 (fun _ h => h))
   have D228 := ((((A158.keep u163 (fun _ h => h)).keep u202 (fun hb => show ¬ (gb155 = gyb) by first | omega | assumption)).keep u209 (fun hb => show ¬ (gb155 = gya) by first | omega | assumption)).keep u219 (fun _ h => h))
   exact hK118 (k + 1, adb, subAddr a2 (cya - (mtS (mtBest lb la).t yb ya k).ia) 1 4, ao154, gb155, cp156) _ _ (by show ((mtS (mtBest lb la).t yb ya k).l - (mtN (mtS (mtBest lb la).t yb ya k))).toNat < (mtS (mtBest lb la).t yb ya k).l.toNat; omega) ⟨rfl, rfl, (congrArg some (by first | (rw [show (mtS (mtBest lb la).t yb ya (k + 1)).ia = (mtS (mtBest lb la).t yb ya k).ia + 1 from hti, show (mtS (mtBest lb la).t yb ya (k + 1)).za = (takeZ (mtS (mtBest lb la).t yb ya k).za (mtS (mtBest lb la).t yb ya k).ia (mtN (mtS (mtBest lb la).t yb ya k))) from rfl, List.length_drop, List.length_drop, takeZ_len, Nat.sub_sub, Nat.sub_sub]) | (rw [show (mtS (mtBest lb la).t yb ya (k + 1)).ia = (mtS (mtBest lb la).t yb ya k).ia from hti, show (mtS (mtBest lb la).t yb ya (k + 1)).za = (takeZ (mtS (mtBest lb la).t yb ya k).za (mtS (mtBest lb la).t yb ya k).ia (mtN (mtS (mtBest lb la).t yb ya k))) from rfl, List.length_drop, List.length_drop, takeZ_len]))), rfl, rfl, trivial⟩ ⟨((((((((u120.nx u134).nx u142).nx u151).next u159 (fun i hi (h : (i = gt ∧ bk110 ≤ i)) => show i = gyb ∨ i = gya ∨ bk110 ≤ i by first | omega | assumption)).nx u163).next u202 (fun i hi (h : i = gyb) => show i = gyb ∨ i = gya ∨ bk110 ≤ i by first | omega | assumption)).next u209 (fun i hi (h : i = gya) => show i = gyb ∨ i = gya ∨ bk110 ≤ i by first | omega | assumption)).nx u219), (hmt.step g119), D227, D225, hadbn, (fun h => by rw [show (mtS (mtBest lb la).t yb ya (k + 1)).ia = (mtS (mtBest lb la).t yb ya k).ia + 1 from hti] at h ⊢; exact take_sub hia (hadra hia) (by omega) (by rwa [show (mtS (mtBest lb la).t yb ya (k + 1)).za = (takeZ (mtS (mtBest lb la).t yb ya k).za (mtS (mtBest lb la).t yb ya k).ia (mtN (mtS (mtBest lb la).t yb ya k))) from rfl, takeZ_len] at h)), D228, (fun j h => (Nat.lt_succ_iff_lt_or_eq.1 h).elim (hall9 j) (fun e => e ▸ g119)), (by show (mtS (mtBest lb la).t yb ya k).l - (mtN (mtS (mtBest lb la).t yb ya k)) ≤ _; omega)⟩
  refine go ?_
  have hti : (takeI (mtS (mtBest lb la).t yb ya k).za (mtS (mtBest lb la).t yb ya k).ia (mtN (mtS (mtBest lb la).t yb ya k))) = (mtS (mtBest lb la).t yb ya k).ia := if_neg g175
  have D229 := ((Z205.keep u209 (fun _ => show ¬ (gyb = gya) by omega)).keep u219 (fun _ h => h))
  have D230 := ((((A158.keep u163 (fun _ h => h)).keep u202 (fun hb => show ¬ (gb155 = gyb) by first | omega | assumption)).keep u209 (fun hb => show ¬ (gb155 = gya) by first | omega | assumption)).keep u219 (fun _ h => h))
  exact hK118 (k + 1, adb, a2, ao154, gb155, cp156) _ _ (by show ((mtS (mtBest lb la).t yb ya k).l - (mtN (mtS (mtBest lb la).t yb ya k))).toNat < (mtS (mtBest lb la).t yb ya k).l.toNat; omega) ⟨rfl, rfl, (congrArg some (by first | (rw [show (mtS (mtBest lb la).t yb ya (k + 1)).ia = (mtS (mtBest lb la).t yb ya k).ia + 1 from hti, show (mtS (mtBest lb la).t yb ya (k + 1)).za = (takeZ (mtS (mtBest lb la).t yb ya k).za (mtS (mtBest lb la).t yb ya k).ia (mtN (mtS (mtBest lb la).t yb ya k))) from rfl, List.length_drop, List.length_drop, takeZ_len, Nat.sub_sub, Nat.sub_sub]) | (rw [show (mtS (mtBest lb la).t yb ya (k + 1)).ia = (mtS (mtBest lb la).t yb ya k).ia from hti, show (mtS (mtBest lb la).t yb ya (k + 1)).za = (takeZ (mtS (mtBest lb la).t yb ya k).za (mtS (mtBest lb la).t yb ya k).ia (mtN (mtS (mtBest lb la).t yb ya k))) from rfl, List.length_drop, List.length_drop, takeZ_len]))), rfl, rfl, trivial⟩ ⟨((((((((u120.nx u134).nx u142).nx u151).next u159 (fun i hi (h : (i = gt ∧ bk110 ≤ i)) => show i = gyb ∨ i = gya ∨ bk110 ≤ i by first | omega | assumption)).nx u163).next u202 (fun i hi (h : i = gyb) => show i = gyb ∨ i = gya ∨ bk110 ≤ i by first | omega | assumption)).next u209 (fun i hi (h : i = gya) => show i = gyb ∨ i = gya ∨ bk110 ≤ i by first | omega | assumption)).nx u219), (hmt.step g119), D229, D225, hadbn, (fun h => by rw [show (mtS (mtBest lb la).t yb ya (k + 1)).ia = (mtS (mtBest lb la).t yb ya k).ia from hti] at h ⊢; exact hadra hia), D230, (fun j h => (Nat.lt_succ_iff_lt_or_eq.1 h).elim (hall9 j) (fun e => e ▸ g119)), (by show (mtS (mtBest lb la).t yb ya k).l - (mtN (mtS (mtBest lb la).t yb ya k)) ≤ _; omega)⟩
 refine go ?_
 refine f_ret3 (v1 := .int .i64 be) (v2 := .slice ao ((mtS (mtBest lb la).t yb ya k).ts.length) ct) (v3 := .int .i64 0) results14 rfl rfl rfl ?_
 have hl0 := hmt.l0
 have hcl9 := crs_len lb la
 exact ⟨⟨_, _, _, _, _, 0, rfl, (htr).sl (fun _ => rfl), ⟨by unfold mtErr; rw [if_neg (by omega), if_neg hanyf, if_neg hnd9, if_neg (by omega)], .inr ⟨rfl, hbe, yb, ya, (by rw [hbe]; exact hpb), hsb, (by rw [hbe]; exact hpa), hsa, k, by omega, hall9, rfl⟩⟩⟩, u_d⟩

end Go.Proofs.YtgoajalaomakpaaGreat
namespace Go.Proofs.YtgoajalaomakpaaGreat
open Go Go.RowKit Go.Proofs.Tryz

theorem mtE0 {lb la : List Bid} (h : mtErr lb la = 0) : lb.length ≤ 30 ∧ la.length ≤ 30 ∧ (∀ x ∈ lb ++ la, okBid x = true) ∧ (lb.map Bid.p).Nodup ∧ (la.map Bid.p).Nodup ∧ (lb ++ la).length ≠ 0 ∧ (mtBest lb la).t ≠ 0 := by
  unfold mtErr at h
  split at h
  · omega
  · split at h
    · omega
    · split at h
      · omega
      · split at h
        · omega
        · rename_i h1 h2 h3 h4
          refine ⟨by omega, by omega, fun x hx => ?_, Classical.byContradiction fun q => h3 (.inl q), Classical.byContradiction fun q => h3 (.inr q), fun q => h4 (.inl q), fun q => h4 (.inr q)⟩
          cases q : okBid x
          · exact absurd (List.any_eq_true.2 ⟨x, hx, by simp [q]⟩) h2
          · rfl
theorem mtS_ok {M : Int} {yb ya : List Bid} {nb na : Nat} (h0 : MtOk nb na (mtS M yb ya 0)) : ∀ {k : Nat}, (∀ j, j < k → 0 < (mtS M yb ya j).l) → MtOk nb na (mtS M yb ya k)
  | 0, _ => h0
  | k + 1, h => (mtS_ok h0 fun j hj => h j (by omega)).step (h k (by omega))
theorem mtS_len {M : Int} {yb ya : List Bid} : ∀ k, (mtS M yb ya k).ts.length = k
  | 0 => rfl
  | k + 1 => by
    have := mtS_len (M := M) (yb := yb) (ya := ya) k
    show ((mtS M yb ya k).ts ++ [_]).length = k + 1
    rw [List.length_append, List.length_singleton]; omega
/-- There are few trades. -/
theorem MtR.len {lb la : List Bid} {p e : Int} {ts : List Trd} (h : MtR lb la p ts e) : ts.length ≤ 61 := by
  obtain ⟨he, h⟩ := h
  rcases h with ⟨_, _, rfl⟩ | ⟨a1, a2, yb, ya, a3, a4, a5, a6, k, a7, a8, a9⟩
  · exact Nat.zero_le _
  · obtain ⟨h1, h2, h3, _, _, h6, _⟩ := mtE0 (he.symm.trans a1)
    subst a2
    have hc := crs_len lb la
    have h0 := MtOk.init h3 (by omega) a3 a5
    have hl := mtS_len (M := (mtBest lb la).t) (yb := yb) (ya := ya) k
    rw [a9, hl]
    cases k with
    | zero => omega
    | succ k =>
      have hm := mtS_ok h0 (k := k) fun j hj => a8 j (by omega)
      have h4 := hm.tl (a8 k (by omega))
      rw [mtS_len] at h4
      have h5 := hm.ib
      have h6 := hm.ia
      have h7 : yb.length ≤ 30 := by rw [a3.length_eq]; exact Nat.le_trans (List.length_filter_le _ _) h1
      have h8 : ya.length ≤ 30 := by rw [a5.length_eq]; exact Nat.le_trans (List.length_filter_le _ _) h2
      omega
theorem eqIn30 (n : Nat) (a0 : Int) (a1 : Int) (a2 : Int) (a3 : Int) (b0 : Int) (b1 : Int) (b2 : Int) (b3 : Int) (w : World) : (Op.equalIn (n + 2) 30 (.agg #[.int .i64 a0, .int .i64 a1, .int .i64 a2, .int .i64 a3]) (.agg #[.int .i64 b0, .int .i64 b1, .int .i64 b2, .int .i64 b3])).run Tryz.prog w = .ok (decide (a0 = b0) && decide (a1 = b1) && decide (a2 = b2) && decide (a3 = b3)) w := by
  have hS : Tryz.prog.underlying 30 = some (.struct (Tryz.prog.fieldsOf 30)) := by kernel_rfl
  have hp : Tryz.prog.stoodInHeld 30 = false := by kernel_rfl
  have p0 : ∀ (a0 : Int) (a1 : Int) (a2 : Int) (a3 : Int), (part 3 #[.int .i64 a0, .int .i64 a1, .int .i64 a2, .int .i64 a3] 0).run Tryz.prog w = .ok (.int .i64 a0) w := fun _ _ _ _ => by simp [part, isAgg3]
  have p1 : ∀ (a0 : Int) (a1 : Int) (a2 : Int) (a3 : Int), (part 3 #[.int .i64 a0, .int .i64 a1, .int .i64 a2, .int .i64 a3] 1).run Tryz.prog w = .ok (.int .i64 a1) w := fun _ _ _ _ => by simp [part, isAgg3]
  have p2 : ∀ (a0 : Int) (a1 : Int) (a2 : Int) (a3 : Int), (part 3 #[.int .i64 a0, .int .i64 a1, .int .i64 a2, .int .i64 a3] 2).run Tryz.prog w = .ok (.int .i64 a2) w := fun _ _ _ _ => by simp [part, isAgg3]
  have p3 : ∀ (a0 : Int) (a1 : Int) (a2 : Int) (a3 : Int), (part 3 #[.int .i64 a0, .int .i64 a1, .int .i64 a2, .int .i64 a3] 3).run Tryz.prog w = .ok (.int .i64 a3) w := fun _ _ _ _ => by simp [part, isAgg3]
  have e3 := fun a b w => equal_i64 underlying3 (n + 0) a b w
  rw [run_equalIn_struct w (n + 1) 30 _ _ hS hp]
  simp only [Program.fieldsOf, underlying30]
  simp only [Op.eqFields, Sem.run_bind, Sem.run_ite, p0, p1, p2, p3, e3, Result.andThen_ok]
  by_cases h0 : a0 = b0 <;> by_cases h1 : a1 = b1 <;> by_cases h2 : a2 = b2 <;> by_cases h3 : a3 = b3 <;> simp [h0, h1, h2, h3]

set_option maxHeartbeats 4000000 in
theorem FreightMatches_c (lb : List Bid) (ab : Option Addr) (bb ob cb : Nat) (la : List Bid) (aa : Option Addr) (ba oa ca : Nat) (w0 : World) (hlb : Sl encBid 4 w0 ab bb ob lb) (_hllb : lb.length ≤ maxLen) (hla : Sl encBid 4 w0 aa ba oa la) (_hlla : la.length ≤ maxLen) :
    CallsV Tryz.prog 3 [.slice ab lb.length cb, .slice aa la.length ca] w0 (fun v w' => v = .bool true ∧ Ext w0 w') := by
 refine f_n func3 ?_
 refine go ?_
 refine t_splitp 19 rfl (fun g19 => ?_) (fun g19 => ?_)
 ·
  refine go ?_
  refine x_c func11 rfl rfl (known_c _ (by first | omega | (have hz9 := hlb.lt (by omega); omega) | (have hz9 := hla.lt (by omega); omega))) ?_
  rintro _ w6 ⟨rfl, u7⟩ zu7
  refine go ?_
  refine f_1 results3 ?_
  exact ⟨rfl, u_d⟩
 refine go ?_
 refine q_p (fun g23 => ?_) fun g23 => ?_
 ·
  refine go ?_
  refine x_c func11 rfl rfl (known_c _ (by first | omega | (have hz9 := hlb.lt (by omega); omega) | (have hz9 := hla.lt (by omega); omega))) ?_
  rintro _ w12 ⟨rfl, u13⟩ zu13
  refine go ?_
  refine f_1 results3 ?_
  exact ⟨rfl, u_d⟩
 refine go ?_
 refine x_c func12 rfl rfl (bids0_c lb ab bb ob cb _ hlb (by omega)) ?_
 rintro _ w19 ⟨⟨aoP17, gP17, cP17, rfl, hP17, hgP17, hzP17⟩, u20⟩ zu20
 have E22 := Sc.mk ((Upd.refl (fun _ => False) w0).nx u20)
 have hlP17 := hP17.lt
 refine go ?_
 refine x_c func12 rfl rfl (bids0_c la aa ba oa ca _ (hla.keep E22.u (fun _ h => h)) (by omega)) ?_
 rintro _ w25 ⟨⟨aoP23, gP23, cP23, rfl, hP23, hgP23, hzP23⟩, u26⟩ zu26
 have hlP23 := hP23.lt
 refine go ?_
 have D30 := (hP17.keep u26 (fun _ h => h))
 refine x_c func13 rfl rfl (Match_c lb aoP17 gP17 0 cP17 la aoP23 gP23 0 cP23 _ D30 (by omega) hP23 (by omega) (by omega)) ?_
 rintro _ w32 ⟨⟨pm, tm, am, gm, cm, em, rfl, hAm, hRm⟩, u33⟩ zu33
 have E35 := Sc.mk ((E22.u.nx u26).nx u33)
 have htlm := hRm.len
 have hSm : Sl encTrd 3 w32 am gm 0 tm := hAm.sl (fun _ => rfl)
 have hltm := hSm.lt
 refine go ?_
 refine x_c func14 rfl rfl (rMatch_c lb ab bb ob cb la aa ba oa ca _ (hlb.keep E35.u (fun _ h => h)) (by omega) (hla.keep E35.u (fun _ h => h)) (by omega)) ?_
 rintro _ w38 ⟨⟨pr, tr, ar, gr, cr, er, rfl, hAr, hRr⟩, u39⟩ zu39
 have htlr := hRr.len
 have hSr : Sl encTrd 3 w38 ar gr 0 tr := hAr
 have hltr := hSr.lt
 obtain ⟨hup, hut, hue⟩ := hRm.uniq hRr
 have hutl : tm.length = tr.length := by rw [hut]
 refine go ?_
 refine x_l1 (fun _ => False) [0, 1, 5, 6, 7, 8, 9, 10, 11, 12] (fun (i : Nat) => [(13, .int .i64 (i : Int))]) (fun i w => (i ≤ lb.length)) (fun i => lb.length - i) 0 (Nat.zero_le _) ?_
 rintro i w45 hi u46 zu46 K44 hK44
 have E47 := Sc.mk ((E35.u.nx u39).nx u46)
 refine go ?_
 refine q_p (fun g46 => ?_) fun g46 => ?_
 ·
  have hp9 := hlb.lt (by omega)
  refine go ?_
  refine c_drawnM follows (fun _ => False) (OTl [0, 2, 4, 6, 8, 10, 12, 14, 16]) (by kernel_rfl) fun w52 u53 => ?_
  have zu53 := u53.size
  refine go ?_
  have D55 := ((((D30.keep u33 (fun _ h => h)).keep u39 (fun _ h => h)).keep u46 (fun _ h => h)).keep u53 (fun _ h => h))
  refine y_i i D55 (fun _ => ?_)
  refine go ?_
  refine y_i i (hlb.keep (E47.u.nx u53) (fun _ h => h)) (fun _ => ?_)
  refine go ?_
  refine y_neS (xs := [.int .i64 ((nth lb i).p), .int .i64 ((nth lb i).n), .int .i64 ((nth lb i).r), .int .i64 ((nth lb i).m)]) (ys := [.int .i64 ((nth lb i).p), .int .i64 ((nth lb i).n), .int .i64 ((nth lb i).r), .int .i64 ((nth lb i).m)]) (by kernel_rfl) (eqIn30 9998 ((nth lb i).p) ((nth lb i).n) ((nth lb i).r) ((nth lb i).m) ((nth lb i).p) ((nth lb i).n) ((nth lb i).r) ((nth lb i).m)) rfl rfl rfl rfl (y_samehd (v := .bool false) (by simp) ?_)
  refine go ?_
  exact hK44 (i + 1) (by omega)
 refine go ?_
 refine x_l1 (fun _ => False) [1, 6, 7, 8, 9, 10, 11, 12] (fun (j : Nat) => [(14, .int .i64 (j : Int))]) (fun j w => (j ≤ la.length)) (fun j => la.length - j) 0 (Nat.zero_le _) ?_
 rintro j w61 hj u62 zu62 K60 hK60
 refine go ?_
 refine q_p (fun g61 => ?_) fun g61 => ?_
 ·
  have hp9 := hla.lt (by omega)
  refine go ?_
  refine c_drawnM follows (fun _ => False) (OTl [0, 2, 4, 6, 8, 10, 12, 14, 16]) (by kernel_rfl) fun w68 u69 => ?_
  have zu69 := u69.size
  refine go ?_
  have D71 := (((((hP23.keep u33 (fun _ h => h)).keep u39 (fun _ h => h)).keep u46 (fun _ h => h)).keep u62 (fun _ h => h)).keep u69 (fun _ h => h))
  refine y_i j D71 (fun _ => ?_)
  refine go ?_
  refine y_i j (hla.keep ((E47.u.nx u62).nx u69) (fun _ h => h)) (fun _ => ?_)
  refine go ?_
  refine y_neS (xs := [.int .i64 ((nth la j).p), .int .i64 ((nth la j).n), .int .i64 ((nth la j).r), .int .i64 ((nth la j).m)]) (ys := [.int .i64 ((nth la j).p), .int .i64 ((nth la j).n), .int .i64 ((nth la j).r), .int .i64 ((nth la j).m)]) (by kernel_rfl) (eqIn30 9998 ((nth la j).p) ((nth la j).n) ((nth la j).r) ((nth la j).m) ((nth la j).p) ((nth la j).n) ((nth la j).r) ((nth la j).m)) rfl rfl rfl rfl (y_samehd (v := .bool false) (by simp) ?_)
  refine go ?_
  exact hK60 (j + 1) (by omega)
 iterate 12 refine st1 ?_
 refine t_same 75 (v := .bool false) rfl (by rw [decide_eq_false (fun h => h hup)]) ?_
 iterate 4 refine st1 ?_
 refine t_same 79 (v := .bool false) rfl (by rw [decide_eq_false (fun h => h hue)]) ?_
 iterate 7 refine st1 ?_
 refine t_same 86 (v := .bool false) rfl (by rw [decide_eq_false (fun h => h (by rw [hutl]))]) ?_
 refine go ?_
 refine x_l1 (fun _ => False) [8, 11] (fun (k : Nat) => [(15, .int .i64 (k : Int))]) (fun k w => (k ≤ tr.length)) (fun k => tr.length - k) 0 (Nat.zero_le _) ?_
 rintro k w79 hk u80 zu80 K78 hK78
 refine go ?_
 refine q_p (fun g91 => ?_) fun g91 => ?_
 ·
  have hp9 := hltm (by omega)
  have hp8 := hltr (by omega)
  refine go ?_
  refine c_drawnM follows (fun _ => False) (OTl [0, 2, 4, 6, 8, 10, 12, 14, 16]) (by kernel_rfl) fun w86 u87 => ?_
  have zu87 := u87.size
  refine go ?_
  have D89 := (((((hSm.keep u39 (fun _ h => h)).keep u46 (fun _ h => h)).keep u62 (fun _ h => h)).keep u80 (fun _ h => h)).keep u87 (fun _ h => h))
  refine y_i k D89 (fun _ => ?_)
  refine go ?_
  have D91 := ((((hSr.keep u46 (fun _ h => h)).keep u62 (fun _ h => h)).keep u80 (fun _ h => h)).keep u87 (fun _ h => h))
  refine y_i k D91 (fun _ => ?_)
  refine go ?_
  refine y_neS (xs := [.int .i64 ((nth tm k).b), .int .i64 ((nth tm k).s), .int .i64 ((nth tm k).n)]) (ys := [.int .i64 ((nth tr k).b), .int .i64 ((nth tr k).s), .int .i64 ((nth tr k).n)]) (by kernel_rfl) (eqIn32 9998 ((nth tm k).b) ((nth tm k).s) ((nth tm k).n) ((nth tr k).b) ((nth tr k).s) ((nth tr k).n)) rfl rfl rfl rfl (y_same 102 (v := .bool false) rfl (by rw [hut]; simp) ?_)
  refine go ?_
  exact hK78 (k + 1) (by omega)
 refine go ?_
 refine x_c func11 rfl rfl (known_c _ (by first | omega | (have hz9 := hlb.lt (by omega); omega) | (have hz9 := hla.lt (by omega); omega))) ?_
 rintro _ w95 ⟨rfl, u96⟩ zu96
 refine go ?_
 refine f_1 results3 ?_
 exact ⟨rfl, u_d⟩

end Go.Proofs.YtgoajalaomakpaaGreat
