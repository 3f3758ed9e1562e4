/-
  The law TowEnds returns true. Conditions: none.
-/
import Derived.Test.YtmicjleiheoieaaA13
import Derived.Test.YtmicjleiheoieaaA28
import Derived.Test.YtmicjleiheoieaaWr
namespace Go.Proofs.Ytmicjleiheoieaa
open Go Go.RowKit
/-- A run at its least wait and its greatest speed; at its greatest wait and its least speed. -/
def fE (r : Run) : Run := ⟨r.frm, r.to, ⟨r.sp.hi, r.sp.hi⟩, ⟨r.wt.lo, r.wt.lo⟩⟩
def fL (r : Run) : Run := ⟨r.frm, r.to, ⟨r.sp.lo, r.sp.lo⟩, ⟨r.wt.hi, r.wt.hi⟩⟩
def eV (v : Voy) : Voy := ⟨⟨v.st.lo, v.st.lo⟩, v.runs.map fE, v.len, v.wid⟩
def lV (v : Voy) : Voy := ⟨⟨v.st.hi, v.st.hi⟩, v.runs.map fL, v.len, v.wid⟩
def eRuns (f : Run → Run) (rs : List Run) (k : Nat) : List Run := (rs.take k).map f ++ rs.drop k
theorem eRuns_len {f : Run → Run} {rs : List Run} {k : Nat} : (eRuns f rs k).length = rs.length := by unfold eRuns; simp; omega
theorem eRuns_zero {f : Run → Run} {rs : List Run} : eRuns f rs 0 = rs := by simp [eRuns]
theorem eRuns_all {f : Run → Run} {rs : List Run} {k : Nat} (h : rs.length ≤ k) : eRuns f rs k = rs.map f := by
  unfold eRuns; rw [List.take_of_length_le h, List.drop_eq_nil_of_le h, List.append_nil]
theorem eRuns_at {f : Run → Run} {rs : List Run} {k : Nat} (h : k < rs.length) : nth (eRuns f rs k) k = nth rs k := by
  have h1 : ((rs.take k).map f).length = k := by simp; omega
  simp only [nth, eRuns, List.getD_eq_getElem?_getD]
  rw [List.getElem?_append_right (by omega), h1, Nat.sub_self, List.getElem?_drop]
  rfl
theorem eRuns_step {f : Run → Run} {rs : List Run} {k : Nat} {y : Run} (h : k < rs.length) : ((eRuns f rs k).set k y).set k (f (nth rs k)) = eRuns f rs (k + 1) := by
  have h1 : ((rs.take k).map f).length = k := by simp; omega
  rw [List.set_set]
  unfold eRuns
  rw [take_nth h, drop_nth h, List.map_append, List.append_assoc]
  have : ∀ (a : List Run) (b : Run) (c : List Run) (z : Run), a.length = k → (a ++ b :: c).set k z = a ++ z :: c := by
    intro a b c z ha; subst ha; simp
  rw [this _ _ _ _ h1]
  rfl
theorem okRun_fE {a w : Int} {r : Run} (h : okRun a w r = true) : okRun a w (fE r) = true ∧ okRun a w (fL r) = true := by
  unfold okRun at h ⊢; rw [decide_eq_true_eq] at h
  exact ⟨decide_eq_true (by simp only [fE]; omega), decide_eq_true (by simp only [fL]; omega)⟩
theorem okRuns_fE {w : Int} : ∀ (rs : List Run) (a : Int), okRuns w a rs = true → okRuns w a (rs.map fE) = true ∧ okRuns w a (rs.map fL) = true
  | [], _, _ => ⟨rfl, rfl⟩
  | r :: rs, a, h => by
    simp only [okRuns, Bool.and_eq_true] at h
    have h1 := okRun_fE h.1
    have h2 := okRuns_fE rs r.to h.2
    exact ⟨by simp only [List.map_cons, okRuns, Bool.and_eq_true]; exact ⟨h1.1, h2.1⟩, by simp only [List.map_cons, okRuns, Bool.and_eq_true]; exact ⟨h1.2, h2.2⟩⟩
theorem ends_same (v : Voy) : (frst (eV v) = frst v ∧ frst (lV v) = frst v) ∧ (lst (eV v) = lst v ∧ lst (lV v) = lst v) ∧ (way0 (eV v) = way0 v ∧ way0 (lV v) = way0 v) := by
  have h1 : (eV v).runs.map (·.frm) = v.runs.map (·.frm) ∧ (lV v).runs.map (·.frm) = v.runs.map (·.frm) := by constructor <;> simp [eV, lV, fE, fL, Function.comp_def]
  have h2 : (eV v).runs.map (·.to) = v.runs.map (·.to) ∧ (lV v).runs.map (·.to) = v.runs.map (·.to) := by constructor <;> simp [eV, lV, fE, fL, Function.comp_def]
  unfold way0 frst lst
  rw [h1.1, h1.2, h2.1, h2.2]
  exact ⟨⟨rfl, rfl⟩, ⟨rfl, rfl⟩, rfl, rfl⟩
theorem ok_ends {v : Voy} (h : okVoy v = true) : okVoy (eV v) = true ∧ okVoy (lV v) = true := by
  have hs := ends_same v
  have h0 := (Bool.and_eq_true_iff.1 h).1
  have h1 := okRuns_fE v.runs _ (Bool.and_eq_true_iff.1 h).2
  unfold okVoy0 at h0
  rw [decide_eq_true_eq] at h0
  unfold okVoy
  rw [hs.1.1, hs.1.2, hs.2.2.1, hs.2.2.2]
  constructor
  · refine Bool.and_eq_true_iff.2 ⟨?_, h1.1⟩
    unfold okVoy0; rw [decide_eq_true_eq]; simp only [eV, List.length_map]; omega
  · refine Bool.and_eq_true_iff.2 ⟨?_, h1.2⟩
    unfold okVoy0; rw [decide_eq_true_eq]; simp only [lV, List.length_map]; omega
theorem onWay_ends (v : Voy) (p : Int) : onWay (eV v) [p] = onWay v [p] ∧ onWay (lV v) [p] = onWay v [p] := by
  have hs := ends_same v
  unfold onWay
  rw [hs.1.1, hs.1.2, hs.2.1.1, hs.2.1.2]
  exact ⟨rfl, rfl⟩
theorem arrGo_ends (p : Int) : ∀ (rs : List Run) (t : Bnd), arrGo p (rs.map fE) ⟨t.lo, t.lo⟩ = ⟨(arrGo p rs t).lo, (arrGo p rs t).lo⟩ ∧ arrGo p (rs.map fL) ⟨t.hi, t.hi⟩ = ⟨(arrGo p rs t).hi, (arrGo p rs t).hi⟩
  | [], _ => ⟨rfl, rfl⟩
  | r :: rs, t => by
    have ih := arrGo_ends p rs ⟨t.lo + (r.wt.lo + tak (wayTo r p) r.sp.hi), t.hi + (r.wt.hi + tak (wayTo r p) r.sp.lo)⟩
    by_cases h1 : r.frm = p
    · have e : arrGo p (r :: rs) t = t := by unfold arrGo; rw [if_pos h1]
      constructor
      · rw [e]
        show arrGo p (fE r :: rs.map fE) _ = _; conv => lhs; unfold arrGo
        rw [if_pos (show (fE r).frm = p from h1)]
      · rw [e]
        show arrGo p (fL r :: rs.map fL) _ = _; conv => lhs; unfold arrGo
        rw [if_pos (show (fL r).frm = p from h1)]
    · by_cases h2 : r.frm + wayTo r p = p
      · have e : arrGo p (r :: rs) t = ⟨t.lo + (r.wt.lo + tak (wayTo r p) r.sp.hi), t.hi + (r.wt.hi + tak (wayTo r p) r.sp.lo)⟩ := by unfold arrGo; rw [if_neg h1, if_pos h2]
        constructor
        · rw [e]
          show arrGo p (fE r :: rs.map fE) _ = _; conv => lhs; unfold arrGo
          rw [if_neg (show ¬ (fE r).frm = p from h1), if_pos (show (fE r).frm + wayTo (fE r) p = p from h2)]
          rfl
        · rw [e]
          show arrGo p (fL r :: rs.map fL) _ = _; conv => lhs; unfold arrGo
          rw [if_neg (show ¬ (fL r).frm = p from h1), if_pos (show (fL r).frm + wayTo (fL r) p = p from h2)]
          rfl
      · have e : arrGo p (r :: rs) t = arrGo p rs ⟨t.lo + (r.wt.lo + tak (wayTo r p) r.sp.hi), t.hi + (r.wt.hi + tak (wayTo r p) r.sp.lo)⟩ := by
          conv => lhs; unfold arrGo
          rw [if_neg h1, if_neg h2]
        constructor
        · rw [e]
          show arrGo p (fE r :: rs.map fE) _ = _; conv => lhs; unfold arrGo
          rw [if_neg (show ¬ (fE r).frm = p from h1), if_neg (show ¬ (fE r).frm + wayTo (fE r) p = p from h2)]
          exact ih.1
        · rw [e]
          show arrGo p (fL r :: rs.map fL) _ = _; conv => lhs; unfold arrGo
          rw [if_neg (show ¬ (fL r).frm = p from h1), if_neg (show ¬ (fL r).frm + wayTo (fL r) p = p from h2)]
          exact ih.2
theorem arr_ends (v : Voy) (p : Int) : arr (eV v) p = ⟨(arr v p).lo, (arr v p).lo⟩ ∧ arr (lV v) p = ⟨(arr v p).hi, (arr v p).hi⟩ := arrGo_ends p v.runs v.st
theorem RT_nil : RT [] [] := ⟨fun _ h => (by cases h), fun _ h => (by cases h)⟩
theorem arr_tru {v : Voy} {p : Int} (hk : okVoy v = true) (ho : onWay v [p] = true) : (arr v p).lo = tru (eV v) 0 [] [] p ∧ (arr v p).hi = tru (lV v) 0 [] [] p ∧ (arr v p).lo ≤ (arr v p).hi ∧ v.st.lo ≤ (arr v p).lo := by
  have hK := ok_ends hk
  have hO := onWay_ends v p
  have hA := arr_ends v p
  have h1 := truV_in (ts := 0) RT_nil (by decide) hK.1 (hO.1.trans ho)
  have h2 := truV_in (ts := 0) RT_nil (by decide) hK.2 (hO.2.trans ho)
  have h3 := truV_in (ts := 0) RT_nil (by decide) hk ho
  rw [hA.1] at h1
  rw [hA.2] at h2
  have h4 := way_args hK.1 (hO.1.trans ho)
  have h5 := tru_low RT_nil (eV v).runs (frst (eV v)) (pck (eV v).st 0) 0 (Bool.and_eq_true_iff.1 hK.1).2 (sgn_or _ _) h4.1 h4.2
  have h6 : pck (eV v).st 0 = v.st.lo := by simp [pck, eV]
  rw [h6] at h5
  have h7 : truGo [] [] p 0 (eV v).runs v.st.lo = tru (eV v) 0 [] [] p := by unfold tru; rw [h6]
  rw [h7] at h5
  simp only [] at h1 h2
  exact ⟨by omega, by omega, by omega, by omega⟩
/-- Later places are reached later. -/
theorem arr_later {v : Voy} {p q : Int} (hk : okVoy v = true) (h1 : onWay v [p] = true) (h2 : onWay v [q] = true) (hd : (frst v < lst v → p ≤ q) ∧ (lst v < frst v → q ≤ p)) : (arr v p).lo ≤ (arr v q).lo ∧ (arr v p).hi ≤ (arr v q).hi := by
  have hK := ok_ends hk
  have t1 := arr_tru hk h1
  have t2 := arr_tru hk h2
  have key : ∀ u : Voy, okVoy u = true → frst u = frst v → lst u = lst v → onWay u [p] = true → onWay u [q] = true → tru u 0 [] [] p ≤ tru u 0 [] [] q := by
    intro u hu e1 e2 o1 o2
    have a1 := way_args hu o1
    have a2 := way_args hu o2
    refine tru_mono RT_nil u.runs (frst u) (pck u.st 0) 0 (Bool.and_eq_true_iff.1 hu).2 (sgn_or _ _) (fun e => ⟨(a1.1 e).1, ?_, (a2.1 e).2⟩) (fun e => ⟨(a1.2 e).1, ?_, (a2.2 e).2⟩)
    · rcases way0_cases hu with ⟨e', e3⟩ | ⟨e', e3⟩
      · exact hd.1 (by omega)
      · rw [e'] at e; omega
    · rcases way0_cases hu with ⟨e', e3⟩ | ⟨e', e3⟩
      · rw [e'] at e; omega
      · exact hd.2 (by omega)
  have hs := ends_same v
  have hp := onWay_ends v p
  have hq := onWay_ends v q
  have k1 := key (eV v) hK.1 hs.1.1 hs.2.1.1 (hp.1.trans h1) (hq.1.trans h2)
  have k2 := key (lV v) hK.2 hs.1.2 hs.2.1.2 (hp.2.trans h1) (hq.2.trans h2)
  omega
theorem onWay_of {v : Voy} {p : Int} (h : min (frst v) (lst v) ≤ p ∧ p ≤ max (frst v) (lst v)) : onWay v [p] = true := by unfold onWay; rw [decide_eq_true_eq]; intro n hn; rw [List.mem_singleton.1 hn]; exact h
theorem onWay_not {v : Voy} {p : Int} (h : ¬ (min (frst v) (lst v) ≤ p ∧ p ≤ max (frst v) (lst v))) : onWay v [p] = false := by unfold onWay; rw [decide_eq_false_iff_not]; intro hh; exact h (hh p (by simp))

theorem own6 : Own Try.prog 6 := ⟨Try.f6, Try.func6, by kernel_rfl, by kernel_rfl⟩


theorem ArrE_on {v : Voy} {p : Int} (hk : okVoy v = true) (ho : onWay v [p] = true) : ArrE v p = 0 ∧ ArrB v p = arr v p := by simp [ArrE, ArrB, hk, ho]
theorem ArrE_off {v : Voy} {p : Int} (hk : okVoy v = true) (ho : onWay v [p] = false) : ArrE v p = 7 ∧ ArrB v p = ⟨0, 0⟩ := by simp [ArrE, ArrB, hk, ho]

theorem copiedW_c (v : Voy) (ao : Option Addr) (b o cap : Nat) (w0 : World) (hs : Sl encRun 6 w0 ao b o v.runs) (hl : v.runs.length ≤ 1000000) :
    CallsV Try.prog 28 [.agg #[.int .i64 v.st.lo, .int .i64 v.st.hi, .slice ao ((v.runs).length) cap, .int .i64 v.len, .int .i64 v.wid]] w0 (fun x w' => (∃ ao' b' cap', x = .agg #[.int .i64 v.st.lo, .int .i64 v.st.hi, .slice ao' v.runs.length cap', .int .i64 v.len, .int .i64 v.wid] ∧ Sl encRun 6 w' ao' b' 0 v.runs ∧ w0.heap.size ≤ b' ∧ Wr encRun 6 59 w' b' v.runs) ∧ Ext w0 w') := by
 have E0 := Upd.refl (fun _ => False) w0
 refine f_enter (N := 9) Try.func28 rfl rfl rfl ?_
 change WC _ _ _ _ _ _ [(0, .agg #[.int .i64 v.st.lo, .int .i64 v.st.hi, .slice ao ((v.runs).length) cap, .int .i64 v.len, .int .i64 v.wid])] _
 refine c_seq fun K1 hK1 => (c_region (t_box (cs := [.int .i64 v.st.lo, .int .i64 v.st.hi, .slice ao ((v.runs).length) cap, .int .i64 v.len, .int .i64 v.wid]) rfl rfl rfl rfl (fun bk2 w3 ebk2 sbk2 B4 u5 => ?_)))
 have zu5 := u5.size
 have E6 := E0.next u5 (fun _ _ h => h.elim)
 refine t_alloc (cs := [.int .i64 0, .int .i64 0, .slice none 0 0, .int .i64 0, .int .i64 0]) Try.zeroValue48 rfl rfl rfl (fun bk7 w8 ebk7 sbk7 B9 u10 => ?_)
 have zu10 := u10.size
 have E11 := E6.next u10 (fun _ _ h => h.elim)
 refine t_nil' (hK1 _ _ (c_seq fun K12 hK12 => (c_region (t_bslice (ps := []) (cs := []) (e := 59) rfl rfl ⟨rfl, rfl⟩ (fun w => by kernel_rfl) (fun bk13 w14 ebk13 sbk13 B15 u16 => ?_)))))
 have zu16 := u16.size
 have E17 := E11.next u16 (fun _ _ h => h.elim)
 refine t_field Try.underlying48 rfl Try.sizeOf46 (2) rfl rfl rfl rfl ?_
 have B18 := ((B4.keep u10 (fun h => h)).keep u16 (fun h => h))
 refine t_load Try.isAgg46 rfl rfl rfl (B18.get rfl) (t_copy (enc := encRun) (z := .agg #[.int .i64 0, .int .i64 0, .int .i64 0, .int .i64 0, .int .i64 0, .int .i64 0]) (bytes := 48) (k := 6) (ys := v.runs) Try.underlying46 (by kernel_rfl) rfl (by decide) (fun _ => rfl) (by intro x; simp [encRun, Value.oneCell']) rfl rfl rfl rfl B15 (hs.keep E17 (fun _ h => h)) (by omega) (by decide) (fun ao19 gb20 cp21 w22 A23 u24 gegb20 => ?_))
 have zu24 := u24.size
 have E25 := E17.next u24 (fun i hi (h : (i = bk13 ∧ bk13 ≤ i)) => show False by first | omega | assumption)
 have lt_gb20 := A23.lt
 refine t_field Try.underlying48 rfl Try.sizeOf46 (2) rfl rfl rfl rfl ?_
 have B26 := (B18.keep u24 (show ¬ ((bk2 = bk13 ∧ bk13 ≤ bk2)) by first | omega | assumption))
 refine t_store (vs := [.slice ao19 v.runs.length cp21]) Try.sizeOf46 rfl rfl rfl B26 rfl rfl (Nat.le_of_ble_eq_true rfl) (by simp [Value.oneCell']) (fun w27 sw27 B29 u28 => ?_)
 have zu28 := u28.size
 have E30 := E25.next u28 (fun i hi (h : i = bk2) => show False by first | omega | assumption)
 have B29 : Blk w27 bk2 48 [.int .i64 v.st.lo, .int .i64 v.st.hi, .slice ao19 v.runs.length cp21, .int .i64 v.len, .int .i64 v.wid] := B29
 refine t_nil' (hK12 _ _ (c_seq fun K31 hK31 => (c_region (t_loadN (vs := [.int .i64 v.st.lo, .int .i64 v.st.hi, .slice ao19 v.runs.length cp21, .int .i64 v.len, .int .i64 v.wid]) Try.isAgg48 Try.sizeOf48 rfl rfl rfl (B29.at.sub 0 5) rfl ?_))))
 have B32 := (((B9.keep u16 (fun h => h)).keep u24 (show ¬ ((bk7 = bk13 ∧ bk13 ≤ bk7)) by first | omega | assumption)).keep u28 (show ¬ (bk7 = bk2) by first | omega | assumption))
 refine t_store (vs := [.int .i64 v.st.lo, .int .i64 v.st.hi, .slice ao19 v.runs.length cp21, .int .i64 v.len, .int .i64 v.wid]) Try.sizeOf48 rfl rfl rfl B32 rfl rfl (Nat.le_of_ble_eq_true rfl) (by simp [Value.oneCell']) (fun w33 sw33 B35 u34 => ?_)
 have zu34 := u34.size
 have E36 := E30.next u34 (fun i hi (h : i = bk7) => show False by first | omega | assumption)
 have B35 : Blk w33 bk7 48 [.int .i64 v.st.lo, .int .i64 v.st.hi, .slice ao19 v.runs.length cp21, .int .i64 v.len, .int .i64 v.wid] := B35
 refine t_nil' (hK31 _ _ (c_ret (f_ret1 (v := .agg #[.int .i64 v.st.lo, .int .i64 v.st.hi, .slice ao19 v.runs.length cp21, .int .i64 v.len, .int .i64 v.wid]) Try.results28 ⟨_, _, rfl, run_loadVarN (vs := [.int .i64 v.st.lo, .int .i64 v.st.hi, .slice ao19 v.runs.length cp21, .int .i64 v.len, .int .i64 v.wid]) Try.isAgg48 Try.sizeOf48 rfl (B35.at.sub 0 5)⟩ ?_)))
 have D37 := ((A23.keep u28 (fun hb => show ¬ (gb20 = bk2) by first | omega | assumption)).keep u34 (fun hb => show ¬ (gb20 = bk7) by first | omega | assumption))
 exact ⟨⟨_, gb20, _, rfl, (D37.sl (fun _ => rfl)), by omega, D37.wr (fun _ => rfl)⟩, E36⟩


theorem ArriveM_c (v : Voy) (n : Nat) (ao : Option Addr) (b o cap : Nat) (p : Int) (w0 : World) (hs : Sl encRun 6 w0 ao b o v.runs) (hn : v.runs.length = n) (hl : v.runs.length ≤ 1000000) :
    CallsV Try.prog 30 [.agg #[.int .i64 v.st.lo, .int .i64 v.st.hi, .slice ao n cap, .int .i64 v.len, .int .i64 v.wid], .int .i64 p] w0 (fun x w' => x = .tuple #[.agg #[.int .i64 (ArrB v p).lo, .int .i64 (ArrB v p).hi], .int .i64 (ArrE v p)] ∧ Ext w0 w') := by
  subst hn; exact Arrive_c v ao b o cap p w0 hs hl

set_option maxHeartbeats 4000000 in
theorem TowEnds_c (v : Voy) (ao : Option Addr) (b o cap : Nat) (n0 : Int) (w0 : World) (hs : Sl encRun 6 w0 ao b o v.runs) (h0 : 0 ≤ n0 ∧ n0 ≤ 65535) :
    CallsV Try.prog 6 [.agg #[.int .i64 v.st.lo, .int .i64 v.st.hi, .slice ao ((v.runs).length) cap, .int .i64 v.len, .int .i64 v.wid], .int .u16 n0] w0 (fun x w' => x = .bool true ∧ Ext w0 w') := by
 have E0 := Upd.refl (fun _ => False) w0
 refine f_enter (N := 251) Try.func6 rfl rfl rfl ?_
 change WC _ _ _ _ _ _ [(0, .agg #[.int .i64 v.st.lo, .int .i64 v.st.hi, .slice ao ((v.runs).length) cap, .int .i64 v.len, .int .i64 v.wid]), (1, .int .u16 n0)] _
 refine c_seq fun K1 hK1 => (c_region (t_box (cs := [.int .i64 v.st.lo, .int .i64 v.st.hi, .slice ao ((v.runs).length) cap, .int .i64 v.len, .int .i64 v.wid]) rfl rfl rfl rfl (fun bk2 w3 ebk2 sbk2 B4 u5 => ?_)))
 have zu5 := u5.size
 have E6 := E0.next u5 (fun _ _ h => h.elim)
 refine t_assign rfl rfl rfl (t_nil' (hK1 _ _ (c_seq fun K7 hK7 => (c_seq fun K8 hK8 => (c_region (t_loadN (vs := [.int .i64 v.st.lo, .int .i64 v.st.hi, .slice ao ((v.runs).length) cap, .int .i64 v.len, .int .i64 v.wid]) Try.isAgg48 Try.sizeOf48 rfl rfl rfl (B4.at.sub 0 5) rfl (t_call (vs := [.agg #[.int .i64 v.st.lo, .int .i64 v.st.hi, .slice ao ((v.runs).length) cap, .int .i64 v.len, .int .i64 v.wid]]) own35 rfl rfl rfl rfl (sound_c v ao b o cap _ (hs.keep E6 (fun _ h => h))) (fun v9 w10 r12 => ?_))))))))
 obtain ⟨rfl, u11⟩ := r12
 have zu11 := u11.size
 have E13 := E6.next u11 (fun _ _ h => h.elim)
 refine t_not rfl rfl rfl (t_nil' (hK8 _ _ (c_cond rfl (fun g26 => ?_) (fun g26 => ?_))))
 ·
  refine c_seq fun K14 hK14 => (c_region (t_call (vs := []) own16 rfl rfl rfl rfl (known_c _) (fun v15 w16 r18 => ?_)))
  obtain ⟨rfl, u17⟩ := r18
  have zu17 := u17.size
  have E19 := E13.next u17 (fun _ _ h => h.elim)
  refine t_assign rfl rfl rfl (t_nil' (hK14 _ _ (c_ret (f_ret1 (v := .bool true) Try.results6 rfl ?_))))
  exact ⟨rfl, E19⟩
 ·
  have hk : okVoy v = true := by simpa using g26
  have hv := okVoy_rng hk
  have hpos := hv.pos
  have hfew := hv.few
  have hf1 := frst_rng hk
  have hf2 := lst_rng hk
  have hK := ok_ends hk
  have hdir := way0_cases hk
  refine c_skip (hK7 _ _ (c_seq fun K20 hK20 => ?_))
  have B21 := (B4.keep u11 (fun h => h))
  refine WC.weak [(1, .int .u16 n0), (2, .pointer (some ⟨bk2, 0, none⟩)), (4, .bool false)] ⟨rfl, rfl, rfl, trivial⟩ (c_drawn follows 16 [some (28, some (.pointer (some ⟨bk2, 2, none⟩))), some (29, some (.slice ao ((v.runs).length) cap)), some (30, some (.pointer (some ⟨b, o + 0 * 6, none⟩))), some (31, some (.pointer (some ⟨b, o + 0 * 6 + 0, none⟩))), some (32, some (.int .i64 ((nth v.runs 0).frm))), some (33, some (.pointer (some ⟨bk2, 2, none⟩))), some (34, some (.slice ao ((v.runs).length) cap)), some (35, some (.pointer (some ⟨bk2, 2, none⟩))), some (36, some (.slice ao ((v.runs).length) cap)), some (37, some (.int .i64 ((v.runs).length : Int))), some (38, some (.int .i64 (((v.runs).length : Int) - 1))), some (39, some (.pointer (some ⟨b, o + (v.runs.length - 1) * 6, none⟩))), some (40, some (.pointer (some ⟨b, o + (v.runs.length - 1) * 6 + 1, none⟩))), some (41, some (.int .i64 ((nth v.runs (v.runs.length - 1)).to))), some (5, some (.int .i64 ((nth v.runs 0).frm))), some (6, some (.int .i64 ((nth v.runs (v.runs.length - 1)).to)))] [[],[0],[1],[2],[3],[],[5],[],[7],[8],[9],[6,10],[11],[12],[4,0,1,2,3,4],[13,14,0,1,2,3,4,5,6,7,8,9,10,11,12,13,14]] (fun _ _ w => Upd (fun _ => False) w10 w) rfl rfl rfl (by kernel_rfl) (by kernel_rfl) (Upd.drew _).to ⟨?_, ?_, ?_, ?_, ?_, ?_, ?_, ?_, ?_, ?_, ?_, ?_, ?_, ?_, ?_, ?_, trivial⟩ ?_)
  · exact fun D ρ w _ _ _ hW => ⟨[(2, .pointer (some ⟨bk2, 0, none⟩))], ⟨fo rfl rfl, trivial⟩, fun Lr => t_field Try.underlying48 rfl Try.sizeOf46 (2) rfl rfl rfl rfl (dz rfl hW)⟩
  ·
   intro D ρ w24 hcD hnD hdD hW
   have zhW := hW.size
   refine ⟨[(28, .pointer (some ⟨bk2, 2, none⟩))], ⟨fi 0 rfl rfl rfl, trivial⟩, fun Lr => ?_⟩
   show WL _ _ _ _ _ _ _ ((28, .pointer (some ⟨bk2, 2, none⟩)) :: Lr) _
   have B27 := (B21.keep hW (fun h => h))
   refine t_load Try.isAgg46 rfl rfl rfl (B27.get rfl) ?_
   exact dz rfl hW
  ·
   intro D ρ w28 hcD hnD hdD hW
   have zhW := hW.size
   have E30 := E13.next hW (fun _ _ h => h.elim)
   refine ⟨[(29, .slice ao ((v.runs).length) cap)], ⟨fi 1 rfl rfl rfl, trivial⟩, fun Lr => ?_⟩
   show WL _ _ _ _ _ _ _ ((29, .slice ao ((v.runs).length) cap) :: Lr) _
   have i31 : 0 < v.runs.length := (by omega)
   refine t_index (j := 0) Try.underlying46 Try.sizeOf59 rfl rfl rfl rfl ((hs.keep E30 (fun _ h => h)).addr (by omega)) rfl i31 ?_
   exact dz rfl hW
  · exact fun D ρ w _ _ _ hW => ⟨[(30, .pointer (some ⟨b, o + 0 * 6, none⟩))], ⟨fi 2 rfl rfl rfl, trivial⟩, fun Lr => t_field Try.underlying59 rfl Try.sizeOf3 (o + 0 * 6 + 0) rfl rfl rfl rfl (dz rfl hW)⟩
  ·
   intro D ρ w32 hcD hnD hdD hW
   have zhW := hW.size
   have E34 := E13.next hW (fun _ _ h => h.elim)
   refine ⟨[(31, .pointer (some ⟨b, o + 0 * 6 + 0, none⟩))], ⟨fi 3 rfl rfl rfl, trivial⟩, fun Lr => ?_⟩
   show WL _ _ _ _ _ _ _ ((31, .pointer (some ⟨b, o + 0 * 6 + 0, none⟩)) :: Lr) _
   refine t_load Try.isAgg3 rfl rfl rfl (((hs.keep E34 (fun _ h => h)).at_ 0 (by omega)) 0 _ rfl) ?_
   exact dz rfl hW
  · exact fun D ρ w _ _ _ hW => ⟨[(2, .pointer (some ⟨bk2, 0, none⟩))], ⟨fo rfl rfl, trivial⟩, fun Lr => t_field Try.underlying48 rfl Try.sizeOf46 (2) rfl rfl rfl rfl (dz rfl hW)⟩
  ·
   intro D ρ w35 hcD hnD hdD hW
   have zhW := hW.size
   refine ⟨[(33, .pointer (some ⟨bk2, 2, none⟩))], ⟨fi 5 rfl rfl rfl, trivial⟩, fun Lr => ?_⟩
   show WL _ _ _ _ _ _ _ ((33, .pointer (some ⟨bk2, 2, none⟩)) :: Lr) _
   have B38 := (B21.keep hW (fun h => h))
   refine t_load Try.isAgg46 rfl rfl rfl (B38.get rfl) ?_
   exact dz rfl hW
  · exact fun D ρ w _ _ _ hW => ⟨[(2, .pointer (some ⟨bk2, 0, none⟩))], ⟨fo rfl rfl, trivial⟩, fun Lr => t_field Try.underlying48 rfl Try.sizeOf46 (2) rfl rfl rfl rfl (dz rfl hW)⟩
  ·
   intro D ρ w39 hcD hnD hdD hW
   have zhW := hW.size
   refine ⟨[(35, .pointer (some ⟨bk2, 2, none⟩))], ⟨fi 7 rfl rfl rfl, trivial⟩, fun Lr => ?_⟩
   show WL _ _ _ _ _ _ _ ((35, .pointer (some ⟨bk2, 2, none⟩)) :: Lr) _
   have B42 := (B21.keep hW (fun h => h))
   refine t_load Try.isAgg46 rfl rfl rfl (B42.get rfl) ?_
   exact dz rfl hW
  ·
   intro D ρ w43 hcD hnD hdD hW
   have zhW := hW.size
   refine ⟨[(36, .slice ao ((v.runs).length) cap)], ⟨fi 8 rfl rfl rfl, trivial⟩, fun Lr => ?_⟩
   show WL _ _ _ _ _ _ _ ((36, .slice ao ((v.runs).length) cap) :: Lr) _
   refine t_len Try.underlying46 rfl rfl rfl rfl ?_
   exact dz rfl hW
  ·
   intro D ρ w46 hcD hnD hdD hW
   have zhW := hW.size
   refine ⟨[(37, .int .i64 ((v.runs).length : Int))], ⟨fi 9 rfl rfl rfl, trivial⟩, fun Lr => ?_⟩
   show WL _ _ _ _ _ _ _ ((37, .int .i64 ((v.runs).length : Int)) :: Lr) _
   refine t_ari rfl rfl rfl rfl rfl (by omega) ?_
   exact dz rfl hW
  ·
   intro D ρ w49 hcD hnD hdD hW
   have zhW := hW.size
   have E51 := E13.next hW (fun _ _ h => h.elim)
   refine ⟨[(34, .slice ao ((v.runs).length) cap), (38, .int .i64 (((v.runs).length : Int) - 1))], ⟨fi 6 rfl rfl rfl, fi 10 rfl rfl rfl, trivial⟩, fun Lr => ?_⟩
   show WL _ _ _ _ _ _ _ ((34, .slice ao ((v.runs).length) cap) :: (38, .int .i64 (((v.runs).length : Int) - 1)) :: Lr) _
   have i52 : (v.runs.length - 1) < v.runs.length := (by omega)
   refine t_index (j := (v.runs.length - 1)) Try.underlying46 Try.sizeOf59 rfl rfl rfl rfl ((hs.keep E51 (fun _ h => h)).addr (by omega)) (by omega) i52 ?_
   exact dz rfl hW
  · exact fun D ρ w _ _ _ hW => ⟨[(39, .pointer (some ⟨b, o + (v.runs.length - 1) * 6, none⟩))], ⟨fi 11 rfl rfl rfl, trivial⟩, fun Lr => t_field Try.underlying59 rfl Try.sizeOf3 (o + (v.runs.length - 1) * 6 + 1) rfl rfl rfl rfl (dz rfl hW)⟩
  ·
   intro D ρ w53 hcD hnD hdD hW
   have zhW := hW.size
   have E55 := E13.next hW (fun _ _ h => h.elim)
   refine ⟨[(40, .pointer (some ⟨b, o + (v.runs.length - 1) * 6 + 1, none⟩))], ⟨fi 12 rfl rfl rfl, trivial⟩, fun Lr => ?_⟩
   show WL _ _ _ _ _ _ _ ((40, .pointer (some ⟨b, o + (v.runs.length - 1) * 6 + 1, none⟩)) :: Lr) _
   refine t_load Try.isAgg3 rfl rfl rfl (((hs.keep E55 (fun _ h => h)).at_ (v.runs.length - 1) (by omega)) 1 _ rfl) ?_
   exact dz rfl hW
  · exact fun D ρ w _ _ _ hW => ⟨[(32, .int .i64 ((nth v.runs 0).frm))], ⟨fi 4 rfl rfl rfl, trivial⟩, fun Lr => t_assign rfl rfl rfl (dz rfl hW)⟩
  · exact fun D ρ w _ _ _ hW => ⟨[(41, .int .i64 ((nth v.runs (v.runs.length - 1)).to))], ⟨fi 13 rfl rfl rfl, trivial⟩, fun Lr => t_assign rfl rfl rfl (dz rfl hW)⟩
  intro ρ w56 hW
  have u57 : Upd (fun _ => False) w10 w56 := hW
  have zu57 := u57.size
  have E58 := E13.next u57 (fun _ _ h => h.elim)
  refine QK.weak [(1, .int .u16 n0), (2, .pointer (some ⟨bk2, 0, none⟩)), (4, .bool false), (5, .int .i64 ((nth v.runs 0).frm)), (6, .int .i64 ((nth v.runs (v.runs.length - 1)).to))] ⟨rfl, rfl, rfl, rfl, rfl, trivial⟩ (hK20 _ _ (c_seq fun K59 hK59 => (c_region (t_same 5 (v := .int .i64 (frst v)) rfl (congrArg (Value.int .i64) (frst_eq hpos).symm) (t_same 6 (v := .int .i64 (lst v)) rfl (congrArg (Value.int .i64) (lst_eq (by omega)).symm) (t_move rfl rfl rfl (t_move rfl rfl rfl (t_ari rfl rfl rfl rfl rfl (by omega) (t_move rfl rfl rfl (t_move rfl rfl rfl (t_ari rfl rfl rfl rfl rfl (by omega) (t_max rfl rfl rfl rfl ?_))))))))))))
  obtain ⟨d, hd⟩ : ∃ y : Int, y = (max ((frst v) - (lst v)) ((lst v) - (frst v))) := ⟨_, rfl⟩
  refine t_same 48 (v := .int .i64 d) rfl (congrArg (Value.int .i64) hd.symm) (t_assign rfl rfl rfl (t_nil' (hK59 _ _ (c_seq fun K60 hK60 => (c_seq fun K61 hK61 => (c_region (t_move rfl rfl rfl (t_cmp rfl rfl rfl rfl rfl (t_same 50 (v := .bool false) rfl (congrArg Value.bool (decide_eq_false (by omega))) (t_nil' (hK61 _ _ (c_cond_f rfl (c_skip (hK60 _ _ (c_seq fun K62 hK62 => (c_region (t_move rfl rfl rfl (t_move rfl rfl rfl (t_ari rfl rfl rfl rfl rfl (by omega) (t_move rfl rfl rfl ?_))))))))))))))))))))
  obtain ⟨s, hs1, hs2⟩ : ∃ s : Int, (((lst v) - (frst v))).tdiv d = s ∧ ((frst v < lst v ∧ s = 1) ∨ (lst v < frst v ∧ s = -1)) := by
   rcases way0_cases hk with ⟨_, e1⟩ | ⟨_, e1⟩
   · exact ⟨1, by rw [show ((lst v) - (frst v)) = d by omega]; exact Int.tdiv_self (by omega), .inl ⟨e1, rfl⟩⟩
   · exact ⟨-1, by rw [show ((lst v) - (frst v)) = -(d) by omega, Int.neg_tdiv, Int.tdiv_self (by omega)], .inr ⟨e1, rfl⟩⟩
  refine t_quoV s rfl rfl rfl rfl (by omega) hs1 (by omega) (t_assign rfl rfl rfl (t_nil' (hK62 _ _ (c_seq fun K63 hK63 => (c_region (t_move rfl rfl rfl (t_move rfl rfl rfl (t_move rfl rfl rfl (t_conv Try.underlying57 Try.underlying3 rfl rfl rfl (IntWalk.i64_in _ (by omega)) (t_move rfl rfl rfl (t_ari rfl rfl rfl rfl rfl (by omega) (t_rem rfl rfl rfl rfl (by omega) (by omega) ?_))))))))))))
  obtain ⟨r, hr⟩ : ∃ y : Int, y = (n0 % (d + 1)) := ⟨_, rfl⟩
  have hrr : 0 ≤ r ∧ r ≤ d := by rw [hr]; exact ⟨Int.emod_nonneg _ (by omega), by have := Int.emod_lt_of_pos n0 (show 0 < d + 1 by omega); omega⟩
  have hsr : (s = 1 → s * r = r) ∧ (s = -1 → s * r = -r) := ⟨fun e => by rw [e]; omega, fun e => by rw [e]; omega⟩
  have hsr2 : (frst v < lst v ∧ s * r = r) ∨ (lst v < frst v ∧ s * r = -r) := by rcases hs2 with ⟨e1, e2⟩ | ⟨e1, e2⟩; (exact .inl ⟨e1, hsr.1 e2⟩); (exact .inr ⟨e1, hsr.2 e2⟩)
  refine t_same 62 (v := .int .i64 r) rfl (congrArg (Value.int .i64) hr.symm) (t_ari rfl rfl rfl rfl rfl (by omega) (t_ari rfl rfl rfl rfl rfl (by omega) ?_))
  obtain ⟨place, hplace⟩ : ∃ y : Int, y = ((frst v) + (s * r)) := ⟨_, rfl⟩
  refine t_same 64 (v := .int .i64 place) rfl (congrArg (Value.int .i64) hplace.symm) (t_assign rfl rfl rfl (t_nil' (hK63 _ _ (c_seq fun K64 hK64 => (c_region ?_)))))
  have B65 := (B21.keep u57 (fun h => h))
  refine t_loadN (vs := [.int .i64 v.st.lo, .int .i64 v.st.hi, .slice ao ((v.runs).length) cap, .int .i64 v.len, .int .i64 v.wid]) Try.isAgg48 Try.sizeOf48 rfl rfl rfl (B65.at.sub 0 5) rfl (t_call (vs := [.agg #[.int .i64 v.st.lo, .int .i64 v.st.hi, .slice ao ((v.runs).length) cap, .int .i64 v.len, .int .i64 v.wid]]) own28 rfl rfl rfl rfl (copied_c v ao b o cap _ (hs.keep E58 (fun _ h => h)) (by omega)) (fun v67 w68 r70 => ?_))
  obtain ⟨⟨aoC66, bC66, cpC66, rfl, hC66, gebC66⟩, u69⟩ := r70
  have zu69 := u69.size
  have E71 := E58.next u69 (fun _ _ h => h.elim)
  refine t_move rfl rfl rfl (t_call (vs := [.agg #[.int .i64 v.st.lo, .int .i64 v.st.hi, .slice aoC66 ((v.runs).length) cpC66, .int .i64 v.len, .int .i64 v.wid], .int .i64 place]) own30 rfl rfl rfl rfl (Arrive_c v aoC66 bC66 0 cpC66 place _ hC66 (by omega)) (fun v72 w73 r75 => ?_))
  obtain ⟨rfl, u74⟩ := r75
  have zu74 := u74.size
  have E76 := E71.next u74 (fun _ _ h => h.elim)
  refine t_move rfl rfl rfl (t_extract (vs := [.agg #[.int .i64 ((ArrB v place).lo), .int .i64 ((ArrB v place).hi)], .int .i64 (ArrE v place)]) rfl rfl rfl rfl (t_extract (vs := [.agg #[.int .i64 ((ArrB v place).lo), .int .i64 ((ArrB v place).hi)], .int .i64 (ArrE v place)]) rfl rfl rfl rfl (t_alloc (cs := [.int .i64 0, .int .i64 0]) Try.zeroValue45 rfl rfl rfl (fun bk77 w78 ebk77 sbk77 B79 u80 => ?_))))
  have zu80 := u80.size
  have E81 := E76.next u80 (fun _ _ h => h.elim)
  refine t_store (vs := [.int .i64 ((ArrB v place).lo), .int .i64 ((ArrB v place).hi)]) Try.sizeOf45 rfl rfl rfl B79 rfl rfl (Nat.le_of_ble_eq_true rfl) (by simp [Value.oneCell']) (fun w82 sw82 B84 u83 => ?_)
  have zu83 := u83.size
  have E85 := E81.next u83 (fun i hi (h : i = bk77) => show False by first | omega | assumption)
  have B84 : Blk w82 bk77 45 [.int .i64 ((ArrB v place).lo), .int .i64 ((ArrB v place).hi)] := B84
  refine t_assign rfl rfl rfl (t_nil' (hK64 _ _ (c_seq fun K86 hK86 => ?_)))
  have hon : onWay v [place] = true := onWay_of (by omega)
  have hA := ArrE_on hk hon
  have hT := arr_tru hk hon
  refine c_same 11 (v := .int .i64 0) rfl (congrArg (Value.int .i64) hA.1) ?_
  have B87 : Blk w82 bk77 45 [.int .i64 ((arr v place).lo), .int .i64 ((arr v place).hi)] := by
   have e : ([.int .i64 ((ArrB v place).lo), .int .i64 ((ArrB v place).hi)] : List Value) = [.int .i64 ((arr v place).lo), .int .i64 ((arr v place).hi)] := by rw [hA.2]
   rw [← e]; exact B84
  have B88 := ((((B65.keep u69 (fun h => h)).keep u74 (fun h => h)).keep u80 (fun h => h)).keep u83 (show ¬ (bk2 = bk77) by first | omega | assumption))
  refine WC.weak [(2, .pointer (some ⟨bk2, 0, none⟩)), (4, .bool false), (5, .int .i64 (frst v)), (6, .int .i64 (lst v)), (8, .int .i64 s), (9, .int .i64 place), (10, .pointer (some ⟨bk77, 0, none⟩)), (11, .int .i64 0)] ⟨rfl, rfl, rfl, rfl, rfl, rfl, rfl, rfl, trivial⟩ (c_drawnS follows 8 6 [some (72, some (.agg #[.int .i64 v.st.lo, .int .i64 v.st.hi, .slice ao ((v.runs).length) cap, .int .i64 v.len, .int .i64 v.wid])), some (73, none), some (74, some (.agg #[.int .i64 v.st.lo, .int .i64 v.st.hi, .slice ao ((v.runs).length) cap, .int .i64 v.len, .int .i64 v.wid])), some (75, none), some (12, none), some (13, none)] [[],[0],[],[2,1],[],[],[4,1,3,0,1,4,5],[5,3,6,0,1,2,3,4,5,6]] (fun D ρ w => Upd (fun _ => False) w82 w ∧ (D 1 = true → ∃ aoE bE cpE, ρ 1 = .agg #[.int .i64 v.st.lo, .int .i64 v.st.hi, .slice aoE ((v.runs).length) cpE, .int .i64 v.len, .int .i64 v.wid] ∧ (Sl encRun 6 w aoE bE 0 v.runs ∧ w82.heap.size ≤ bE ∧ Wr encRun 6 59 w bE v.runs)) ∧ (D 3 = true → ∃ aoL bL cpL, ρ 3 = .agg #[.int .i64 v.st.lo, .int .i64 v.st.hi, .slice aoL ((v.runs).length) cpL, .int .i64 v.len, .int .i64 v.wid] ∧ (Sl encRun 6 w aoL bL 0 v.runs ∧ w82.heap.size ≤ bL ∧ Wr encRun 6 59 w bL v.runs ∧ ∀ b c, ρ 1 = .agg #[.int .i64 v.st.lo, .int .i64 v.st.hi, .slice (some ⟨b, 0, none⟩) v.runs.length c, .int .i64 v.len, .int .i64 v.wid] → b ≠ bL)) ∧ (D 4 = true → ∃ bk100, ρ 4 = .pointer (some ⟨bk100, 0, none⟩) ∧ w82.heap.size ≤ bk100 ∧ Blk w bk100 48 [.int .i64 0, .int .i64 0, .slice none 0 0, .int .i64 0, .int .i64 0]) ∧ (D 5 = true → ∃ bk105, ρ 5 = .pointer (some ⟨bk105, 0, none⟩) ∧ w82.heap.size ≤ bk105 ∧ Blk w bk105 48 [.int .i64 0, .int .i64 0, .slice none 0 0, .int .i64 0, .int .i64 0]) ∧ (∀ b c, D 4 = true → D 5 = true → ρ 4 = .pointer (some ⟨b, 0, none⟩) → ρ 5 = .pointer (some ⟨c, 0, none⟩) → b ≠ c)) rfl rfl rfl rfl (by kernel_rfl) (by kernel_rfl) (by kernel_rfl) ⟨(Upd.drew _).to, (fun h => by cases h), (fun h => by cases h), (fun h => by cases h), (fun h => by cases h), (fun _ _ h => by cases h)⟩ ⟨?_, ?_, ?_, ?_, ?_, ?_, trivial⟩ ?_)
  ·
   intro D ρ w110 hcD hnD hdD hW
   obtain ⟨u111, F112, F113, F114, F115, P116⟩ := hW
   have zu111 := u111.size
   refine ⟨[(2, .pointer (some ⟨bk2, 0, none⟩))], ⟨fo rfl rfl, trivial⟩, fun Lr => ?_⟩
   show WL _ _ _ _ _ _ _ ((2, .pointer (some ⟨bk2, 0, none⟩)) :: Lr) _
   have B118 := (B88.keep u111 (fun h => h))
   refine t_loadN (vs := [.int .i64 v.st.lo, .int .i64 v.st.hi, .slice ao ((v.runs).length) cap, .int .i64 v.len, .int .i64 v.wid]) Try.isAgg48 Try.sizeOf48 rfl rfl rfl (B118.at.sub 0 5) rfl ?_
   exact dz rfl ⟨u111, F112, (fun h => absurd ((hcD.late 3 (hcD.late 1 hnD rfl) rfl).symm.trans h) (by decide)), F114, F115, P116⟩
  ·
   intro D ρ w119 hcD hnD hdD hW
   obtain ⟨u120, F121, F122, F123, F124, P125⟩ := hW
   have zu120 := u120.size
   have E126 := E85.next u120 (fun _ _ h => h.elim)
   refine ⟨[(72, .agg #[.int .i64 v.st.lo, .int .i64 v.st.hi, .slice ao ((v.runs).length) cap, .int .i64 v.len, .int .i64 v.wid])], ⟨fi 0 rfl rfl rfl, trivial⟩, fun Lr => ?_⟩
   show WL _ _ _ _ _ _ _ ((72, .agg #[.int .i64 v.st.lo, .int .i64 v.st.hi, .slice ao ((v.runs).length) cap, .int .i64 v.len, .int .i64 v.wid]) :: Lr) _
   refine t_call (vs := [.agg #[.int .i64 v.st.lo, .int .i64 v.st.hi, .slice ao ((v.runs).length) cap, .int .i64 v.len, .int .i64 v.wid]]) own28 rfl rfl rfl rfl (copiedW_c v ao b o cap _ (hs.keep E126 (fun _ h => h)) (by omega)) (fun v127 w128 r130 => ?_)
   obtain ⟨⟨aoE, bE, cpE, rfl, hE, gebE, wrbE⟩, u129⟩ := r130
   have zu129 := u129.size
   exact dzn rfl ⟨(u120.next u129 (fun _ _ h => h.elim)), (fun _ => ⟨aoE, bE, cpE, rfl, ⟨hE, by omega, wrbE⟩⟩), (fun h => absurd ((hcD.late 3 hnD rfl).symm.trans h) (by decide)), (fun h => by obtain ⟨b, e, hge, hB⟩ := F123 h; exact ⟨b, e, hge, (hB.keep u129 (fun h => h))⟩), (fun h => by obtain ⟨b, e, hge, hB⟩ := F124 h; exact ⟨b, e, hge, (hB.keep u129 (fun h => h))⟩), P125⟩
  ·
   intro D ρ w132 hcD hnD hdD hW
   obtain ⟨u133, F134, F135, F136, F137, P138⟩ := hW
   have zu133 := u133.size
   refine ⟨[(2, .pointer (some ⟨bk2, 0, none⟩))], ⟨fo rfl rfl, trivial⟩, fun Lr => ?_⟩
   show WL _ _ _ _ _ _ _ ((2, .pointer (some ⟨bk2, 0, none⟩)) :: Lr) _
   have B140 := (B88.keep u133 (fun h => h))
   refine t_loadN (vs := [.int .i64 v.st.lo, .int .i64 v.st.hi, .slice ao ((v.runs).length) cap, .int .i64 v.len, .int .i64 v.wid]) Try.isAgg48 Try.sizeOf48 rfl rfl rfl (B140.at.sub 0 5) rfl ?_
   exact dz rfl ⟨u133, F134, (fun h => absurd ((hcD.late 3 hnD rfl).symm.trans h) (by decide)), F136, F137, P138⟩
  ·
   intro D ρ w141 hcD hnD hdD hW
   obtain ⟨u142, F143, F144, F145, F146, P147⟩ := hW
   have zu142 := u142.size
   have E148 := E85.next u142 (fun _ _ h => h.elim)
   refine ⟨[(74, .agg #[.int .i64 v.st.lo, .int .i64 v.st.hi, .slice ao ((v.runs).length) cap, .int .i64 v.len, .int .i64 v.wid])], ⟨fi 2 rfl rfl rfl, trivial⟩, fun Lr => ?_⟩
   show WL _ _ _ _ _ _ _ ((74, .agg #[.int .i64 v.st.lo, .int .i64 v.st.hi, .slice ao ((v.runs).length) cap, .int .i64 v.len, .int .i64 v.wid]) :: Lr) _
   refine t_call (vs := [.agg #[.int .i64 v.st.lo, .int .i64 v.st.hi, .slice ao ((v.runs).length) cap, .int .i64 v.len, .int .i64 v.wid]]) own28 rfl rfl rfl rfl (copiedW_c v ao b o cap _ (hs.keep E148 (fun _ h => h)) (by omega)) (fun v149 w150 r152 => ?_)
   obtain ⟨⟨aoL, bL, cpL, rfl, hL, gebL, wrbL⟩, u151⟩ := r152
   have zu151 := u151.size
   exact dzn rfl ⟨(u142.next u151 (fun _ _ h => h.elim)), (fun h => by obtain ⟨aoE, bE, cpE, e, hB⟩ := F143 h; exact ⟨aoE, bE, cpE, e, ⟨(hB.1.keep u151 (fun _ h => h)), hB.2.1, (hB.2.2.keep u151 (fun _ h => h))⟩⟩), (fun _ => ⟨aoL, bL, cpL, rfl, ⟨hL, by omega, wrbL, fun b c e => by obtain ⟨aoE, bE, cpE, eE, hsE, hgE, hwE⟩ := F143 (hdD 1 rfl); have hlE := hwE.lt (by omega); have e : ρ 1 = _ := e; rw [eE, hsE.addr (by omega)] at e; simp at e; omega⟩⟩), (fun h => by obtain ⟨b, e, hge, hB⟩ := F145 h; exact ⟨b, e, hge, (hB.keep u151 (fun h => h))⟩), (fun h => by obtain ⟨b, e, hge, hB⟩ := F146 h; exact ⟨b, e, hge, (hB.keep u151 (fun h => h))⟩), P147⟩
  ·
   intro D ρ w154 hcD hnD hdD hW
   obtain ⟨u155, F156, F157, F158, F159, P160⟩ := hW
   have zu155 := u155.size
   refine ⟨[], trivial, fun Lr => ?_⟩
   show WL _ _ _ _ _ _ _ (Lr) _
   refine t_alloc (cs := [.int .i64 0, .int .i64 0, .slice none 0 0, .int .i64 0, .int .i64 0]) Try.zeroValue48 rfl rfl rfl (fun bk162 w163 ebk162 sbk162 B164 u165 => ?_)
   have zu165 := u165.size
   exact dzn rfl ⟨(u155.next u165 (fun _ _ h => h.elim)), (fun h => by obtain ⟨aoE, bE, cpE, e, hB⟩ := F156 h; exact ⟨aoE, bE, cpE, e, ⟨(hB.1.keep u165 (fun _ h => h)), hB.2.1, (hB.2.2.keep u165 (fun _ h => h))⟩⟩), (fun h => by obtain ⟨aoL, bL, cpL, e, hB⟩ := F157 h; exact ⟨aoL, bL, cpL, e, ⟨(hB.1.keep u165 (fun _ h => h)), hB.2.1, (hB.2.2.1.keep u165 (fun _ h => h)), hB.2.2.2⟩⟩), (fun _ => ⟨bk162, rfl, (by omega), (by show Blk w163 bk162 48 [.int .i64 0, .int .i64 0, .slice none 0 0, .int .i64 0, .int .i64 0]; exact B164)⟩), (fun h => by obtain ⟨b, e, hge, hB⟩ := F159 h; exact ⟨b, e, hge, (hB.keep u165 (fun h => h))⟩), (fun b c h1 h2 e1 e2 => by obtain ⟨b1, e3, _, hB⟩ := F159 h2; have hl := hB.lt; have e4 : Value.pointer (some ⟨b1, 0, none⟩) = .pointer (some ⟨c, 0, none⟩) := e3.symm.trans e2; have e5 : Value.pointer (some ⟨bk162, 0, none⟩) = .pointer (some ⟨b, 0, none⟩) := e1; simp at e4 e5; omega)⟩
  ·
   intro D ρ w167 hcD hnD hdD hW
   obtain ⟨u168, F169, F170, F171, F172, P173⟩ := hW
   have zu168 := u168.size
   refine ⟨[], trivial, fun Lr => ?_⟩
   show WL _ _ _ _ _ _ _ (Lr) _
   refine t_alloc (cs := [.int .i64 0, .int .i64 0, .slice none 0 0, .int .i64 0, .int .i64 0]) Try.zeroValue48 rfl rfl rfl (fun bk175 w176 ebk175 sbk175 B177 u178 => ?_)
   have zu178 := u178.size
   exact dzn rfl ⟨(u168.next u178 (fun _ _ h => h.elim)), (fun h => by obtain ⟨aoE, bE, cpE, e, hB⟩ := F169 h; exact ⟨aoE, bE, cpE, e, ⟨(hB.1.keep u178 (fun _ h => h)), hB.2.1, (hB.2.2.keep u178 (fun _ h => h))⟩⟩), (fun h => by obtain ⟨aoL, bL, cpL, e, hB⟩ := F170 h; exact ⟨aoL, bL, cpL, e, ⟨(hB.1.keep u178 (fun _ h => h)), hB.2.1, (hB.2.2.1.keep u178 (fun _ h => h)), hB.2.2.2⟩⟩), (fun h => by obtain ⟨b, e, hge, hB⟩ := F171 h; exact ⟨b, e, hge, (hB.keep u178 (fun h => h))⟩), (fun _ => ⟨bk175, rfl, (by omega), (by show Blk w176 bk175 48 [.int .i64 0, .int .i64 0, .slice none 0 0, .int .i64 0, .int .i64 0]; exact B177)⟩), (fun b c h1 h2 e1 e2 => by obtain ⟨b1, e3, _, hB⟩ := F171 h1; have hl := hB.lt; have e4 : Value.pointer (some ⟨b1, 0, none⟩) = .pointer (some ⟨b, 0, none⟩) := e3.symm.trans e1; have e5 : Value.pointer (some ⟨bk175, 0, none⟩) = .pointer (some ⟨c, 0, none⟩) := e2; simp at e4 e5; omega)⟩
  intro ρ w180 hW
  obtain ⟨u181, F182, F183, F184, F185, P186⟩ := hW
  have zu181 := u181.size
  have E187 := E85.next u181 (fun _ _ h => h.elim)
  obtain ⟨aoE, bE, cpE, e188, H189⟩ := F182 rfl
  obtain ⟨hsE, hgE, hwE⟩ := H189
  have haoE := hsE.addr (by omega)
  have hltE := hwE.lt (by omega)
  obtain ⟨aoL, bL, cpL, e190, H191⟩ := F183 rfl
  obtain ⟨hsL, hgL, hwL, hx⟩ := H191
  have haoL := hsL.addr (by omega)
  have hltL := hwL.lt (by omega)
  have hneEL : bE ≠ bL := hx bE cpE (by rw [e188, haoE])
  obtain ⟨bk100, e192, gebk100, B193⟩ := F184 rfl
  have B193 : Blk w180 bk100 48 [.int .i64 0, .int .i64 0, .slice none 0 0, .int .i64 0, .int .i64 0] := B193
  have lt_bk100 := B193.lt
  obtain ⟨bk105, e194, gebk105, B195⟩ := F185 rfl
  have B195 : Blk w180 bk105 48 [.int .i64 0, .int .i64 0, .slice none 0 0, .int .i64 0, .int .i64 0] := B195
  have lt_bk105 := B195.lt
  have nbk100_bk105 := P186 _ _ rfl rfl e192 e194
  refine t_weak [(2, .pointer (some ⟨bk2, 0, none⟩)), (4, .bool false), (5, .int .i64 (frst v)), (6, .int .i64 (lst v)), (8, .int .i64 s), (9, .int .i64 place), (10, .pointer (some ⟨bk77, 0, none⟩)), (11, .int .i64 0), (12, .pointer (some ⟨bk100, 0, none⟩)), (13, .pointer (some ⟨bk105, 0, none⟩)), (73, .agg #[.int .i64 v.st.lo, .int .i64 v.st.hi, .slice aoE ((v.runs).length) cpE, .int .i64 v.len, .int .i64 v.wid]), (75, .agg #[.int .i64 v.st.lo, .int .i64 v.st.hi, .slice aoL ((v.runs).length) cpL, .int .i64 v.len, .int .i64 v.wid])] ⟨rfl, rfl, rfl, rfl, rfl, rfl, rfl, rfl, (look_nd (j := 4) rfl rfl rfl e192), (look_nd (j := 5) rfl rfl rfl e194), (look_nd (j := 1) rfl rfl rfl e188), (look_nd (j := 3) rfl rfl rfl e190), trivial⟩ ?_
  have hnE12 : bE ≠ bk100 := fun e => by
   have h1 := B193
   obtain ⟨cur, hc, _⟩ := hwE.at_ (by omega)
   rw [e] at hc
   have h2 := h1.symm.trans hc
   simp at h2
  have hnE13 : bE ≠ bk105 := fun e => by
   have h1 := B195
   obtain ⟨cur, hc, _⟩ := hwE.at_ (by omega)
   rw [e] at hc
   have h2 := h1.symm.trans hc
   simp at h2
  have hnL12 : bL ≠ bk100 := fun e => by
   have h1 := B193
   obtain ⟨cur, hc, _⟩ := hwL.at_ (by omega)
   rw [e] at hc
   have h2 := h1.symm.trans hc
   simp at h2
  have hnL13 : bL ≠ bk105 := fun e => by
   have h1 := B195
   obtain ⟨cur, hc, _⟩ := hwL.at_ (by omega)
   rw [e] at hc
   have h2 := h1.symm.trans hc
   simp at h2
  refine t_store (vs := [.int .i64 v.st.lo, .int .i64 v.st.hi, .slice aoE ((v.runs).length) cpE, .int .i64 v.len, .int .i64 v.wid]) Try.sizeOf48 rfl rfl rfl B193 rfl rfl (Nat.le_of_ble_eq_true rfl) (by simp [Value.oneCell']) (fun w196 sw196 B198 u197 => ?_)
  have zu197 := u197.size
  have E199 := E187.next u197 (fun i hi (h : i = bk100) => show False by first | omega | assumption)
  have B198 : Blk w196 bk100 48 [.int .i64 v.st.lo, .int .i64 v.st.hi, .slice aoE ((v.runs).length) cpE, .int .i64 v.len, .int .i64 v.wid] := B198
  have B200 := (B195.keep u197 (show ¬ (bk105 = bk100) by first | omega | assumption))
  refine t_store (vs := [.int .i64 v.st.lo, .int .i64 v.st.hi, .slice aoL ((v.runs).length) cpL, .int .i64 v.len, .int .i64 v.wid]) Try.sizeOf48 rfl rfl rfl B200 rfl rfl (Nat.le_of_ble_eq_true rfl) (by simp [Value.oneCell']) (fun w201 sw201 B203 u202 => ?_)
  have zu202 := u202.size
  have E204 := E199.next u202 (fun i hi (h : i = bk105) => show False by first | omega | assumption)
  have B203 : Blk w201 bk105 48 [.int .i64 v.st.lo, .int .i64 v.st.hi, .slice aoL ((v.runs).length) cpL, .int .i64 v.len, .int .i64 v.wid] := B203
  refine t_nil' (hK86 _ _ (c_seq fun K205 hK205 => ?_))
  have B206 := (((B88.keep u181 (fun h => h)).keep u197 (show ¬ (bk2 = bk100) by first | omega | assumption)).keep u202 (show ¬ (bk2 = bk105) by first | omega | assumption))
  have B207 := (B198.keep u202 (show ¬ (bk100 = bk105) by first | omega | assumption))
  refine WC.weak [(2, .pointer (some ⟨bk2, 0, none⟩)), (4, .bool false), (5, .int .i64 (frst v)), (6, .int .i64 (lst v)), (8, .int .i64 s), (9, .int .i64 place), (10, .pointer (some ⟨bk77, 0, none⟩)), (11, .int .i64 0), (12, .pointer (some ⟨bk100, 0, none⟩)), (13, .pointer (some ⟨bk105, 0, none⟩))] ⟨rfl, rfl, rfl, rfl, rfl, rfl, rfl, rfl, rfl, rfl, trivial⟩ (c_drawn follows 12 [some (76, some (.pointer (some ⟨bk2, 0, none⟩))), some (77, some (.pointer (some ⟨bk2, 0, none⟩))), some (78, some (.int .i64 v.st.lo)), some (79, some (.agg #[.int .i64 v.st.lo, .int .i64 v.st.lo])), some (80, some (.pointer (some ⟨bk2, 0, none⟩))), some (81, some (.pointer (some ⟨bk2, 1, none⟩))), some (82, some (.int .i64 v.st.hi)), some (83, some (.agg #[.int .i64 v.st.hi, .int .i64 v.st.hi])), some (84, some (.pointer (some ⟨bk100, 0, none⟩))), none, some (85, some (.pointer (some ⟨bk105, 0, none⟩))), none] [[],[0],[1],[2],[],[4],[5],[6,3],[0,1,2,3],[8,3,7,0,1,2,3],[0,1,2,3,4,5,6,7,8,9],[10,7,9,0,1,2,3,4,5,6,7,8,9]] (fun D _ w => Upd (fun i => i = bk100 ∨ i = bk105) w201 w ∧ Blk w bk100 48 [(bif D 9 then .int .i64 v.st.lo else .int .i64 v.st.lo), (bif D 9 then .int .i64 v.st.lo else .int .i64 v.st.hi), .slice aoE ((v.runs).length) cpE, .int .i64 v.len, .int .i64 v.wid] ∧ Blk w bk105 48 [(bif D 11 then .int .i64 v.st.hi else .int .i64 v.st.lo), (bif D 11 then .int .i64 v.st.hi else .int .i64 v.st.hi), .slice aoL ((v.runs).length) cpL, .int .i64 v.len, .int .i64 v.wid]) rfl rfl rfl (by kernel_rfl) (by kernel_rfl) ⟨(Upd.drew _).to, (B207.keep (Upd.drew _) (fun h => h)), (B203.keep (Upd.drew _) (fun h => h))⟩ ⟨?_, ?_, ?_, ?_, ?_, ?_, ?_, ?_, ?_, ?_, ?_, ?_, trivial⟩ ?_)
  · exact fun D ρ w _ _ _ hW => ⟨[(2, .pointer (some ⟨bk2, 0, none⟩))], ⟨fo rfl rfl, trivial⟩, fun Lr => t_field Try.underlying48 rfl Try.sizeOf45 (0) rfl rfl rfl rfl (dz rfl hW)⟩
  · exact fun D ρ w _ _ _ hW => ⟨[(76, .pointer (some ⟨bk2, 0, none⟩))], ⟨fi 0 rfl rfl rfl, trivial⟩, fun Lr => t_field Try.underlying45 rfl Try.sizeOf3 (0) rfl rfl rfl rfl (dz rfl hW)⟩
  ·
   intro D ρ w219 hcD hnD hdD hW
   obtain ⟨u220, B221, B222⟩ := hW
   have zu220 := u220.size
   have d9 := hcD.late 9 hnD rfl
   have B224 := B221
   simp only [d9, cond_false] at B224
   have d11 := hcD.late 11 hnD rfl
   have B225 := B222
   simp only [d11, cond_false] at B225
   refine ⟨[(77, .pointer (some ⟨bk2, 0, none⟩))], ⟨fi 1 rfl rfl rfl, trivial⟩, fun Lr => ?_⟩
   show WL _ _ _ _ _ _ _ ((77, .pointer (some ⟨bk2, 0, none⟩)) :: Lr) _
   have B226 := (B206.keep u220 (show ¬ (bk2 = bk100 ∨ bk2 = bk105) by first | omega | assumption))
   refine t_load Try.isAgg3 rfl rfl rfl (B226.get rfl) ?_
   exact dz rfl ⟨u220, B221, B222⟩
  ·
   intro D ρ w227 hcD hnD hdD hW
   obtain ⟨u228, B229, B230⟩ := hW
   have zu228 := u228.size
   have d9 := hcD.late 9 hnD rfl
   have B232 := B229
   simp only [d9, cond_false] at B232
   have d11 := hcD.late 11 hnD rfl
   have B233 := B230
   simp only [d11, cond_false] at B233
   refine ⟨[(78, .int .i64 v.st.lo)], ⟨fi 2 rfl rfl rfl, trivial⟩, fun Lr => ?_⟩
   show WL _ _ _ _ _ _ _ ((78, .int .i64 v.st.lo) :: Lr) _
   refine t_call (vs := [.int .i64 v.st.lo]) own36 rfl rfl rfl rfl (exact_c v.st.lo _) (fun v234 w235 r237 => ?_)
   obtain ⟨rfl, u236⟩ := r237
   have zu236 := u236.size
   exact dz rfl ⟨(u228.next u236 (fun _ _ h => h.elim)), (B229.keep u236 (fun h => h)), (B230.keep u236 (fun h => h))⟩
  · exact fun D ρ w _ _ _ hW => ⟨[(2, .pointer (some ⟨bk2, 0, none⟩))], ⟨fo rfl rfl, trivial⟩, fun Lr => t_field Try.underlying48 rfl Try.sizeOf45 (0) rfl rfl rfl rfl (dz rfl hW)⟩
  · exact fun D ρ w _ _ _ hW => ⟨[(80, .pointer (some ⟨bk2, 0, none⟩))], ⟨fi 4 rfl rfl rfl, trivial⟩, fun Lr => t_field Try.underlying45 rfl Try.sizeOf3 (1) rfl rfl rfl rfl (dz rfl hW)⟩
  ·
   intro D ρ w239 hcD hnD hdD hW
   obtain ⟨u240, B241, B242⟩ := hW
   have zu240 := u240.size
   have d11 := hcD.late 11 hnD rfl
   have B244 := B242
   simp only [d11, cond_false] at B244
   refine ⟨[(81, .pointer (some ⟨bk2, 1, none⟩))], ⟨fi 5 rfl rfl rfl, trivial⟩, fun Lr => ?_⟩
   show WL _ _ _ _ _ _ _ ((81, .pointer (some ⟨bk2, 1, none⟩)) :: Lr) _
   have B245 := (B206.keep u240 (show ¬ (bk2 = bk100 ∨ bk2 = bk105) by first | omega | assumption))
   refine t_load Try.isAgg3 rfl rfl rfl (B245.get rfl) ?_
   exact dz rfl ⟨u240, B241, B242⟩
  ·
   intro D ρ w246 hcD hnD hdD hW
   obtain ⟨u247, B248, B249⟩ := hW
   have zu247 := u247.size
   have d9 := hcD.late 9 hnD rfl
   have B251 := B248
   simp only [d9, cond_false] at B251
   have d11 := hcD.late 11 hnD rfl
   have B252 := B249
   simp only [d11, cond_false] at B252
   refine ⟨[(82, .int .i64 v.st.hi)], ⟨fi 6 rfl rfl rfl, trivial⟩, fun Lr => ?_⟩
   show WL _ _ _ _ _ _ _ ((82, .int .i64 v.st.hi) :: Lr) _
   refine t_call (vs := [.int .i64 v.st.hi]) own36 rfl rfl rfl rfl (exact_c v.st.hi _) (fun v253 w254 r256 => ?_)
   obtain ⟨rfl, u255⟩ := r256
   have zu255 := u255.size
   exact dz rfl ⟨(u247.next u255 (fun _ _ h => h.elim)), (B248.keep u255 (fun h => h)), (B249.keep u255 (fun h => h))⟩
  · exact fun D ρ w _ _ _ hW => ⟨[(12, .pointer (some ⟨bk100, 0, none⟩))], ⟨fo rfl rfl, trivial⟩, fun Lr => t_field Try.underlying48 rfl Try.sizeOf45 (0) rfl rfl rfl rfl (dz rfl hW)⟩
  ·
   intro D ρ w258 hcD hnD hdD hW
   obtain ⟨u259, B260, B261⟩ := hW
   have zu259 := u259.size
   have B263 := B260
   simp only [hnD, cond_false] at B263
   have d11 := hcD.late 11 hnD rfl
   have B264 := B261
   simp only [d11, cond_false] at B264
   refine ⟨[(79, .agg #[.int .i64 v.st.lo, .int .i64 v.st.lo]), (84, .pointer (some ⟨bk100, 0, none⟩))], ⟨fi 3 rfl rfl rfl, fi 8 rfl rfl rfl, trivial⟩, fun Lr => ?_⟩
   show WL _ _ _ _ _ _ _ ((79, .agg #[.int .i64 v.st.lo, .int .i64 v.st.lo]) :: (84, .pointer (some ⟨bk100, 0, none⟩)) :: Lr) _
   refine t_store (vs := [.int .i64 v.st.lo, .int .i64 v.st.lo]) Try.sizeOf45 rfl rfl rfl B263 rfl rfl (Nat.le_of_ble_eq_true rfl) (by simp [Value.oneCell']) (fun w265 sw265 B267 u266 => ?_)
   have zu266 := u266.size
   have B267 : Blk w265 bk100 48 [.int .i64 v.st.lo, .int .i64 v.st.lo, .slice aoE ((v.runs).length) cpE, .int .i64 v.len, .int .i64 v.wid] := B267
   exact dz0 rfl ⟨(u259.next u266 (fun i hi (h : i = bk100) => show i = bk100 ∨ i = bk105 by first | omega | assumption)), (by show Blk w265 bk100 48 [.int .i64 v.st.lo, .int .i64 v.st.lo, .slice aoE ((v.runs).length) cpE, .int .i64 v.len, .int .i64 v.wid]; exact B267), (B261.keep u266 (show ¬ (bk105 = bk100) by first | omega | assumption))⟩
  · exact fun D ρ w _ _ _ hW => ⟨[(13, .pointer (some ⟨bk105, 0, none⟩))], ⟨fo rfl rfl, trivial⟩, fun Lr => t_field Try.underlying48 rfl Try.sizeOf45 (0) rfl rfl rfl rfl (dz rfl hW)⟩
  ·
   intro D ρ w269 hcD hnD hdD hW
   obtain ⟨u270, B271, B272⟩ := hW
   have zu270 := u270.size
   have d9 := hdD 9 rfl
   have B274 := B271
   simp only [d9, cond_true] at B274
   have B275 := B272
   simp only [hnD, cond_false] at B275
   refine ⟨[(83, .agg #[.int .i64 v.st.hi, .int .i64 v.st.hi]), (85, .pointer (some ⟨bk105, 0, none⟩))], ⟨fi 7 rfl rfl rfl, fi 10 rfl rfl rfl, trivial⟩, fun Lr => ?_⟩
   show WL _ _ _ _ _ _ _ ((83, .agg #[.int .i64 v.st.hi, .int .i64 v.st.hi]) :: (85, .pointer (some ⟨bk105, 0, none⟩)) :: Lr) _
   refine t_store (vs := [.int .i64 v.st.hi, .int .i64 v.st.hi]) Try.sizeOf45 rfl rfl rfl B275 rfl rfl (Nat.le_of_ble_eq_true rfl) (by simp [Value.oneCell']) (fun w276 sw276 B278 u277 => ?_)
   have zu277 := u277.size
   have B278 : Blk w276 bk105 48 [.int .i64 v.st.hi, .int .i64 v.st.hi, .slice aoL ((v.runs).length) cpL, .int .i64 v.len, .int .i64 v.wid] := B278
   exact dz0 rfl ⟨(u270.next u277 (fun i hi (h : i = bk105) => show i = bk100 ∨ i = bk105 by first | omega | assumption)), (B271.keep u277 (show ¬ (bk100 = bk105) by first | omega | assumption)), (by show Blk w276 bk105 48 [.int .i64 v.st.hi, .int .i64 v.st.hi, .slice aoL ((v.runs).length) cpL, .int .i64 v.len, .int .i64 v.wid]; exact B278)⟩
  intro ρ w280 hW
  obtain ⟨u281, B282, B283⟩ := hW
  have zu281 := u281.size
  have E284 := E204.next u281 (fun i hi (h : i = bk100 ∨ i = bk105) => show False by first | omega | assumption)
  have B282 : Blk w280 bk100 48 [.int .i64 v.st.lo, .int .i64 v.st.lo, .slice aoE ((v.runs).length) cpE, .int .i64 v.len, .int .i64 v.wid] := B282
  have B283 : Blk w280 bk105 48 [.int .i64 v.st.hi, .int .i64 v.st.hi, .slice aoL ((v.runs).length) cpL, .int .i64 v.len, .int .i64 v.wid] := B283
  refine QK.weak [(2, .pointer (some ⟨bk2, 0, none⟩)), (4, .bool false), (5, .int .i64 (frst v)), (6, .int .i64 (lst v)), (8, .int .i64 s), (9, .int .i64 place), (10, .pointer (some ⟨bk77, 0, none⟩)), (11, .int .i64 0), (12, .pointer (some ⟨bk100, 0, none⟩)), (13, .pointer (some ⟨bk105, 0, none⟩))] ⟨rfl, rfl, rfl, rfl, rfl, rfl, rfl, rfl, rfl, rfl, trivial⟩ (hK205 _ _ (c_seq fun K285 hK285 => (c_seq fun K286 hK286 => (c_region (t_assign rfl rfl rfl (t_nil' (hK286 _ _ (c_block ?_))))))))
  have D287 := (((hwE.keep u197 (fun _ => show ¬ (bE = bk100) by first | omega | assumption)).keep u202 (fun _ => show ¬ (bE = bk105) by first | omega | assumption)).keep u281 (fun _ => show ¬ (bE = bk100 ∨ bE = bk105) by first | omega | assumption))
  have D288 := (((hwL.keep u197 (fun _ => show ¬ (bL = bk100) by first | omega | assumption)).keep u202 (fun _ => show ¬ (bL = bk105) by first | omega | assumption)).keep u281 (fun _ => show ¬ (bL = bk100 ∨ bL = bk105) by first | omega | assumption))
  refine c_loop (γ := Nat) (fun k => [(2, .pointer (some ⟨bk2, 0, none⟩)), (4, .bool false), (5, .int .i64 (frst v)), (6, .int .i64 (lst v)), (8, .int .i64 s), (9, .int .i64 place), (10, .pointer (some ⟨bk77, 0, none⟩)), (11, .int .i64 0), (12, .pointer (some ⟨bk100, 0, none⟩)), (13, .pointer (some ⟨bk105, 0, none⟩)), (14, .int .i64 (k : Int))]) (fun k w => Upd (fun i => i = bE ∨ i = bL) w280 w ∧ (k ≤ v.runs.length) ∧ (Wr encRun 6 59 w bE (eRuns fE v.runs k)) ∧ (Wr encRun 6 59 w bL (eRuns fL v.runs k))) (fun k => v.runs.length - k) 0 ⟨rfl, rfl, rfl, rfl, rfl, rfl, rfl, rfl, rfl, rfl, rfl, trivial⟩ ⟨Upd.refl _ _, Nat.zero_le _, (by rw [eRuns_zero]; exact D287), (by rw [eRuns_zero]; exact D288)⟩ ?_
  intro k w290 hW K289 hK289
  obtain ⟨u291, I292, I293, I294⟩ := hW
  have zu291 := u291.size
  have E295 := E284.next u291 (fun i hi (h : i = bE ∨ i = bL) => show False by first | omega | assumption)
  have hk0 := I292; clear I292
  have hWE := I293; clear I293
  have hWL := I294; clear I294
  refine c_seq fun K296 hK296 => (c_seq fun K297 hK297 => (c_region (t_move rfl rfl rfl (t_field Try.underlying48 rfl Try.sizeOf46 (2) rfl rfl rfl rfl ?_))))
  have B298 := ((B206.keep u281 (show ¬ (bk2 = bk100 ∨ bk2 = bk105) by first | omega | assumption)).keep u291 (show ¬ (bk2 = bE ∨ bk2 = bL) by first | omega | assumption))
  refine t_load Try.isAgg46 rfl rfl rfl (B298.get rfl) (t_len Try.underlying46 rfl rfl rfl rfl (t_cmp rfl rfl rfl rfl rfl (t_nil' (hK297 _ _ (c_condp rfl (fun g90 => ?_) (fun g90 => ?_))))))
  ·
   refine c_skip (hK296 _ _ (c_seq fun K299 hK299 => (c_block (c_seq fun K300 hK300 => (c_region (t_field Try.underlying48 rfl Try.sizeOf46 (2) rfl rfl rfl rfl (t_load Try.isAgg46 rfl rfl rfl (B298.get rfl) (t_move rfl rfl rfl ?_))))))))
   have i301 : k < v.runs.length := (by omega)
   refine t_index (j := k) Try.underlying46 Try.sizeOf59 rfl rfl rfl rfl ((hs.keep E295 (fun _ h => h)).addr (by omega)) rfl i301 (t_loadN (vs := [.int .i64 ((nth v.runs k).frm), .int .i64 ((nth v.runs k).to), .int .i64 ((nth v.runs k).sp.lo), .int .i64 ((nth v.runs k).sp.hi), .int .i64 ((nth v.runs k).wt.lo), .int .i64 ((nth v.runs k).wt.hi)]) Try.isAgg59 Try.sizeOf59 rfl rfl rfl (((hs.keep E295 (fun _ h => h)).at_ k (by omega)).sub 0 6) rfl (t_alloc (cs := [.int .i64 0, .int .i64 0, .int .i64 0, .int .i64 0, .int .i64 0, .int .i64 0]) Try.zeroValue59 rfl rfl rfl (fun bk302 w303 ebk302 sbk302 B304 u305 => ?_)))
   have zu305 := u305.size
   refine t_store (vs := [.int .i64 ((nth v.runs k).frm), .int .i64 ((nth v.runs k).to), .int .i64 ((nth v.runs k).sp.lo), .int .i64 ((nth v.runs k).sp.hi), .int .i64 ((nth v.runs k).wt.lo), .int .i64 ((nth v.runs k).wt.hi)]) Try.sizeOf59 rfl rfl rfl B304 rfl rfl (Nat.le_of_ble_eq_true rfl) (by simp [Value.oneCell']) (fun w307 sw307 B309 u308 => ?_)
   have zu308 := u308.size
   have B309 : Blk w307 bk302 59 [.int .i64 ((nth v.runs k).frm), .int .i64 ((nth v.runs k).to), .int .i64 ((nth v.runs k).sp.lo), .int .i64 ((nth v.runs k).sp.hi), .int .i64 ((nth v.runs k).wt.lo), .int .i64 ((nth v.runs k).wt.hi)] := B309
   refine t_nil' (hK300 _ _ (c_seq fun K311 hK311 => ?_))
   have B312 := (((B282.keep u291 (show ¬ (bk100 = bE ∨ bk100 = bL) by first | omega | assumption)).keep u305 (fun h => h)).keep u308 (show ¬ (bk100 = bk302) by first | omega | assumption))
   have D327 := ((hWE.keep u305 (fun _ h => h)).keep u308 (fun _ => show ¬ (bE = bk302) by first | omega | assumption))
   refine WC.weak [(2, .pointer (some ⟨bk2, 0, none⟩)), (4, .bool false), (5, .int .i64 (frst v)), (6, .int .i64 (lst v)), (8, .int .i64 s), (9, .int .i64 place), (10, .pointer (some ⟨bk77, 0, none⟩)), (11, .int .i64 0), (12, .pointer (some ⟨bk100, 0, none⟩)), (13, .pointer (some ⟨bk105, 0, none⟩)), (14, .int .i64 (k : Int)), (15, .pointer (some ⟨bk302, 0, none⟩)), (86, .int .i64 (k : Int)), (87, .pointer (some ⟨bk2, 2, none⟩)), (88, .slice ao ((v.runs).length) cap), (89, .int .i64 ((v.runs).length : Int)), (90, .bool (decide ((k : Int) < ((v.runs).length : Int)))), (93, .pointer (some ⟨bk2, 2, none⟩)), (94, .slice ao ((v.runs).length) cap), (95, .int .i64 (k : Int)), (96, .pointer (some ⟨b, o + k * 6, none⟩)), (97, .agg #[.int .i64 ((nth v.runs k).frm), .int .i64 ((nth v.runs k).to), .int .i64 ((nth v.runs k).sp.lo), .int .i64 ((nth v.runs k).sp.hi), .int .i64 ((nth v.runs k).wt.lo), .int .i64 ((nth v.runs k).wt.hi)])] ⟨rfl, rfl, rfl, rfl, rfl, rfl, rfl, rfl, rfl, rfl, rfl, rfl, rfl, rfl, rfl, rfl, rfl, rfl, rfl, rfl, rfl, rfl, trivial⟩ (c_drawn follows 20 [some (98, some (.pointer (some ⟨bk100, 2, none⟩))), some (99, some (.slice aoE ((v.runs).length) cpE)), some (100, some (.int .i64 (k : Int))), some (101, some (.pointer (some ⟨bk100, 2, none⟩))), some (102, some (.slice aoE ((v.runs).length) cpE)), some (103, some (.int .i64 (k : Int))), some (104, some (.pointer (some ⟨bk302, 4, none⟩))), some (105, some (.pointer (some ⟨bk302, 4, none⟩))), some (106, some (.int .i64 ((nth v.runs k).wt.lo))), some (107, some (.agg #[.int .i64 ((nth v.runs k).wt.lo), .int .i64 ((nth v.runs k).wt.lo)])), some (108, some (.pointer (some ⟨bk302, 2, none⟩))), some (109, some (.pointer (some ⟨bk302, 3, none⟩))), some (110, some (.int .i64 ((nth v.runs k).sp.hi))), some (111, some (.agg #[.int .i64 ((nth v.runs k).sp.hi), .int .i64 ((nth v.runs k).sp.hi)])), some (112, some (.pointer (some ⟨bE, 0 + k * 6, none⟩))), some (113, some (.pointer (some ⟨bE, 0 + k * 6 + 4, none⟩))), none, some (114, some (.pointer (some ⟨bE, 0 + k * 6, none⟩))), some (115, some (.pointer (some ⟨bE, 0 + k * 6 + 2, none⟩))), none] [[],[0],[],[],[3],[],[],[6],[7],[8],[],[10],[11],[12,9],[1,2,0,1,2,6,7,8,9,13],[14,0,1,2,6,7,8,9,13],[15,9,13,0,1,2,6,7,8,9,13],[4,5,0,1,2,3,4,5,6,7,8,9,10,11,12,13,14,15,16],[17,0,1,2,3,4,5,6,7,8,9,10,11,12,13,14,15,16],[18,13,16,0,1,2,3,4,5,6,7,8,9,10,11,12,13,14,15,16]] (fun D _ w => Upd (fun i => i = bE) w307 w ∧ Wr encRun 6 59 w bE (bif D 19 then (((eRuns fE v.runs k).set k (⟨(nth v.runs k).frm, (nth v.runs k).to, (nth v.runs k).sp, ⟨(nth v.runs k).wt.lo, (nth v.runs k).wt.lo⟩⟩ : Run)).set k (fE (nth v.runs k))) else (bif D 16 then ((eRuns fE v.runs k).set k (⟨(nth v.runs k).frm, (nth v.runs k).to, (nth v.runs k).sp, ⟨(nth v.runs k).wt.lo, (nth v.runs k).wt.lo⟩⟩ : Run)) else (eRuns fE v.runs k)))) rfl rfl rfl (by kernel_rfl) (by kernel_rfl) ⟨(Upd.drew _).to, (D327.keep (Upd.drew _) (fun _ h => h))⟩ ⟨?_, ?_, ?_, ?_, ?_, ?_, ?_, ?_, ?_, ?_, ?_, ?_, ?_, ?_, ?_, ?_, ?_, ?_, ?_, ?_, trivial⟩ ?_)
   · exact fun D ρ w _ _ _ hW => ⟨[(12, .pointer (some ⟨bk100, 0, none⟩))], ⟨fo rfl rfl, trivial⟩, fun Lr => t_field Try.underlying48 rfl Try.sizeOf46 (2) rfl rfl rfl rfl (dz rfl hW)⟩
   ·
    intro D ρ w328 hcD hnD hdD hW
    obtain ⟨u329, R330⟩ := hW
    have zu329 := u329.size
    have d19 := (hcD.late 19 hnD rfl)
    have d16 := (hcD.late 16 hnD rfl)
    have R332 := R330
    simp only [d19, d16, cond_false] at R332
    refine ⟨[(98, .pointer (some ⟨bk100, 2, none⟩))], ⟨fi 0 rfl rfl rfl, trivial⟩, fun Lr => ?_⟩
    show WL _ _ _ _ _ _ _ ((98, .pointer (some ⟨bk100, 2, none⟩)) :: Lr) _
    have B333 := (B312.keep u329 (show ¬ (bk100 = bE) by first | omega | assumption))
    refine t_load Try.isAgg46 rfl rfl rfl (B333.get rfl) ?_
    exact dz rfl ⟨u329, R330⟩
   · exact fun D ρ w _ _ _ hW => ⟨[(14, .int .i64 (k : Int))], ⟨fo rfl rfl, trivial⟩, fun Lr => t_move rfl rfl rfl (dz rfl hW)⟩
   · exact fun D ρ w _ _ _ hW => ⟨[(12, .pointer (some ⟨bk100, 0, none⟩))], ⟨fo rfl rfl, trivial⟩, fun Lr => t_field Try.underlying48 rfl Try.sizeOf46 (2) rfl rfl rfl rfl (dz rfl hW)⟩
   ·
    intro D ρ w334 hcD hnD hdD hW
    obtain ⟨u335, R336⟩ := hW
    have zu335 := u335.size
    have d19 := (hcD.late 19 hnD rfl)
    refine ⟨[(101, .pointer (some ⟨bk100, 2, none⟩))], ⟨fi 3 rfl rfl rfl, trivial⟩, fun Lr => ?_⟩
    show WL _ _ _ _ _ _ _ ((101, .pointer (some ⟨bk100, 2, none⟩)) :: Lr) _
    have B338 := (B312.keep u335 (show ¬ (bk100 = bE) by first | omega | assumption))
    refine t_load Try.isAgg46 rfl rfl rfl (B338.get rfl) ?_
    exact dz rfl ⟨u335, R336⟩
   · exact fun D ρ w _ _ _ hW => ⟨[(14, .int .i64 (k : Int))], ⟨fo rfl rfl, trivial⟩, fun Lr => t_move rfl rfl rfl (dz rfl hW)⟩
   · exact fun D ρ w _ _ _ hW => ⟨[(15, .pointer (some ⟨bk302, 0, none⟩))], ⟨fo rfl rfl, trivial⟩, fun Lr => t_field Try.underlying59 rfl Try.sizeOf45 (4) rfl rfl rfl rfl (dz rfl hW)⟩
   · exact fun D ρ w _ _ _ hW => ⟨[(104, .pointer (some ⟨bk302, 4, none⟩))], ⟨fi 6 rfl rfl rfl, trivial⟩, fun Lr => t_field Try.underlying45 rfl Try.sizeOf3 (4) rfl rfl rfl rfl (dz rfl hW)⟩
   ·
    intro D ρ w339 hcD hnD hdD hW
    obtain ⟨u340, R341⟩ := hW
    have zu340 := u340.size
    have d19 := (hcD.late 19 hnD rfl)
    have d16 := (hcD.late 16 hnD rfl)
    have R343 := R341
    simp only [d19, d16, cond_false] at R343
    refine ⟨[(105, .pointer (some ⟨bk302, 4, none⟩))], ⟨fi 7 rfl rfl rfl, trivial⟩, fun Lr => ?_⟩
    show WL _ _ _ _ _ _ _ ((105, .pointer (some ⟨bk302, 4, none⟩)) :: Lr) _
    have B344 := (B309.keep u340 (show ¬ (bk302 = bE) by first | omega | assumption))
    refine t_load Try.isAgg3 rfl rfl rfl (B344.get rfl) ?_
    exact dz rfl ⟨u340, R341⟩
   ·
    intro D ρ w345 hcD hnD hdD hW
    obtain ⟨u346, R347⟩ := hW
    have zu346 := u346.size
    have d19 := (hcD.late 19 hnD rfl)
    have d16 := (hcD.late 16 hnD rfl)
    have R349 := R347
    simp only [d19, d16, cond_false] at R349
    refine ⟨[(106, .int .i64 ((nth v.runs k).wt.lo))], ⟨fi 8 rfl rfl rfl, trivial⟩, fun Lr => ?_⟩
    show WL _ _ _ _ _ _ _ ((106, .int .i64 ((nth v.runs k).wt.lo)) :: Lr) _
    refine t_call (vs := [.int .i64 ((nth v.runs k).wt.lo)]) own36 rfl rfl rfl rfl (exact_c ((nth v.runs k).wt.lo) _) (fun v350 w351 r353 => ?_)
    obtain ⟨rfl, u352⟩ := r353
    have zu352 := u352.size
    exact dz rfl ⟨(u346.next u352 (fun _ _ h => h.elim)), (R347.keep u352 (fun _ h => h))⟩
   · exact fun D ρ w _ _ _ hW => ⟨[(15, .pointer (some ⟨bk302, 0, none⟩))], ⟨fo rfl rfl, trivial⟩, fun Lr => t_field Try.underlying59 rfl Try.sizeOf45 (2) rfl rfl rfl rfl (dz rfl hW)⟩
   · exact fun D ρ w _ _ _ hW => ⟨[(108, .pointer (some ⟨bk302, 2, none⟩))], ⟨fi 10 rfl rfl rfl, trivial⟩, fun Lr => t_field Try.underlying45 rfl Try.sizeOf3 (3) rfl rfl rfl rfl (dz rfl hW)⟩
   ·
    intro D ρ w355 hcD hnD hdD hW
    obtain ⟨u356, R357⟩ := hW
    have zu356 := u356.size
    have d19 := (hcD.late 19 hnD rfl)
    have d16 := (hcD.late 16 (hcD.late 13 hnD rfl) rfl)
    have R359 := R357
    simp only [d19, d16, cond_false] at R359
    refine ⟨[(109, .pointer (some ⟨bk302, 3, none⟩))], ⟨fi 11 rfl rfl rfl, trivial⟩, fun Lr => ?_⟩
    show WL _ _ _ _ _ _ _ ((109, .pointer (some ⟨bk302, 3, none⟩)) :: Lr) _
    have B360 := (B309.keep u356 (show ¬ (bk302 = bE) by first | omega | assumption))
    refine t_load Try.isAgg3 rfl rfl rfl (B360.get rfl) ?_
    exact dz rfl ⟨u356, R357⟩
   ·
    intro D ρ w361 hcD hnD hdD hW
    obtain ⟨u362, R363⟩ := hW
    have zu362 := u362.size
    have d19 := (hcD.late 19 hnD rfl)
    have d16 := (hcD.late 16 hnD rfl)
    have R365 := R363
    simp only [d19, d16, cond_false] at R365
    refine ⟨[(110, .int .i64 ((nth v.runs k).sp.hi))], ⟨fi 12 rfl rfl rfl, trivial⟩, fun Lr => ?_⟩
    show WL _ _ _ _ _ _ _ ((110, .int .i64 ((nth v.runs k).sp.hi)) :: Lr) _
    refine t_call (vs := [.int .i64 ((nth v.runs k).sp.hi)]) own36 rfl rfl rfl rfl (exact_c ((nth v.runs k).sp.hi) _) (fun v366 w367 r369 => ?_)
    obtain ⟨rfl, u368⟩ := r369
    have zu368 := u368.size
    exact dz rfl ⟨(u362.next u368 (fun _ _ h => h.elim)), (R363.keep u368 (fun _ h => h))⟩
   ·
    intro D ρ w371 hcD hnD hdD hW
    obtain ⟨u372, R373⟩ := hW
    have zu372 := u372.size
    have d19 := (hcD.late 19 hnD rfl)
    have d16 := (hcD.late 16 (hcD.late 15 hnD rfl) rfl)
    have R375 := R373
    simp only [d19, d16, cond_false] at R375
    refine ⟨[(99, .slice aoE ((v.runs).length) cpE), (100, .int .i64 (k : Int))], ⟨fi 1 rfl rfl rfl, fi 2 rfl rfl rfl, trivial⟩, fun Lr => ?_⟩
    show WL _ _ _ _ _ _ _ ((99, .slice aoE ((v.runs).length) cpE) :: (100, .int .i64 (k : Int)) :: Lr) _
    have i376 : k < (eRuns fE v.runs k).length := (by rw [eRuns_len]; omega)
    refine t_index (j := k) Try.underlying46 Try.sizeOf59 rfl rfl rfl rfl ((R375.sl (fun _ => haoE)).addr (by omega)) rfl (by omega) ?_
    exact dz rfl ⟨u372, R373⟩
   · exact fun D ρ w _ _ _ hW => ⟨[(112, .pointer (some ⟨bE, 0 + k * 6, none⟩))], ⟨fi 14 rfl rfl rfl, trivial⟩, fun Lr => t_field Try.underlying59 rfl Try.sizeOf45 (0 + k * 6 + 4) rfl rfl rfl rfl (dz rfl hW)⟩
   ·
    intro D ρ w377 hcD hnD hdD hW
    obtain ⟨u378, R379⟩ := hW
    have zu378 := u378.size
    have d19 := (hcD.late 19 hnD rfl)
    have R381 := R379
    simp only [d19, hnD, cond_false] at R381
    refine ⟨[(107, .agg #[.int .i64 ((nth v.runs k).wt.lo), .int .i64 ((nth v.runs k).wt.lo)]), (113, .pointer (some ⟨bE, 0 + k * 6 + 4, none⟩))], ⟨fi 9 rfl rfl rfl, fi 15 rfl rfl rfl, trivial⟩, fun Lr => ?_⟩
    show WL _ _ _ _ _ _ _ ((107, .agg #[.int .i64 ((nth v.runs k).wt.lo), .int .i64 ((nth v.runs k).wt.lo)]) :: (113, .pointer (some ⟨bE, 0 + k * 6 + 4, none⟩)) :: Lr) _
    refine t_storeW (vs := [.int .i64 ((nth v.runs k).wt.lo), .int .i64 ((nth v.runs k).wt.lo)]) (j := k) (o' := 4) (k := 6) (⟨(nth v.runs k).frm, (nth v.runs k).to, (nth v.runs k).sp, ⟨(nth v.runs k).wt.lo, (nth v.runs k).wt.lo⟩⟩ : Run) (fun _ => rfl) Try.sizeOf45 rfl rfl (by omega) rfl R381 (by first | omega | (simp only [List.length_set, eRuns_len]; omega)) rfl rfl (by decide) (by simp [Value.oneCell']) (by rw [eRuns_at (by omega)]; rfl) (fun w382 R384 u383 => ?_)
    have zu383 := u383.size
    exact dz0 rfl ⟨(u378.next u383 (fun i hi (h : i = bE) => show i = bE by first | omega | assumption)), (by show Wr encRun 6 59 w382 bE (bif D 19 then (((eRuns fE v.runs k).set k (⟨(nth v.runs k).frm, (nth v.runs k).to, (nth v.runs k).sp, ⟨(nth v.runs k).wt.lo, (nth v.runs k).wt.lo⟩⟩ : Run)).set k (fE (nth v.runs k))) else ((eRuns fE v.runs k).set k (⟨(nth v.runs k).frm, (nth v.runs k).to, (nth v.runs k).sp, ⟨(nth v.runs k).wt.lo, (nth v.runs k).wt.lo⟩⟩ : Run))); simp only [d19, cond_false]; exact R384)⟩
   ·
    intro D ρ w386 hcD hnD hdD hW
    obtain ⟨u387, R388⟩ := hW
    have zu387 := u387.size
    have d19 := (hcD.late 19 (hcD.late 18 hnD rfl) rfl)
    have d16 := (hdD 16 rfl)
    have R390 := R388
    simp only [d19, d16, cond_true, cond_false] at R390
    refine ⟨[(102, .slice aoE ((v.runs).length) cpE), (103, .int .i64 (k : Int))], ⟨fi 4 rfl rfl rfl, fi 5 rfl rfl rfl, trivial⟩, fun Lr => ?_⟩
    show WL _ _ _ _ _ _ _ ((102, .slice aoE ((v.runs).length) cpE) :: (103, .int .i64 (k : Int)) :: Lr) _
    have i391 : k < ((eRuns fE v.runs k).set k (⟨(nth v.runs k).frm, (nth v.runs k).to, (nth v.runs k).sp, ⟨(nth v.runs k).wt.lo, (nth v.runs k).wt.lo⟩⟩ : Run)).length := (by rw [List.length_set, eRuns_len]; omega)
    refine t_index (j := k) Try.underlying46 Try.sizeOf59 rfl rfl rfl rfl ((R390.sl (fun _ => haoE)).addr (by omega)) rfl (by omega) ?_
    exact dz rfl ⟨u387, R388⟩
   · exact fun D ρ w _ _ _ hW => ⟨[(114, .pointer (some ⟨bE, 0 + k * 6, none⟩))], ⟨fi 17 rfl rfl rfl, trivial⟩, fun Lr => t_field Try.underlying59 rfl Try.sizeOf45 (0 + k * 6 + 2) rfl rfl rfl rfl (dz rfl hW)⟩
   ·
    intro D ρ w392 hcD hnD hdD hW
    obtain ⟨u393, R394⟩ := hW
    have zu393 := u393.size
    have d16 := (hdD 16 rfl)
    have R396 := R394
    simp only [hnD, d16, cond_true, cond_false] at R396
    refine ⟨[(111, .agg #[.int .i64 ((nth v.runs k).sp.hi), .int .i64 ((nth v.runs k).sp.hi)]), (115, .pointer (some ⟨bE, 0 + k * 6 + 2, none⟩))], ⟨fi 13 rfl rfl rfl, fi 18 rfl rfl rfl, trivial⟩, fun Lr => ?_⟩
    show WL _ _ _ _ _ _ _ ((111, .agg #[.int .i64 ((nth v.runs k).sp.hi), .int .i64 ((nth v.runs k).sp.hi)]) :: (115, .pointer (some ⟨bE, 0 + k * 6 + 2, none⟩)) :: Lr) _
    refine t_storeW (vs := [.int .i64 ((nth v.runs k).sp.hi), .int .i64 ((nth v.runs k).sp.hi)]) (j := k) (o' := 2) (k := 6) (fE (nth v.runs k)) (fun _ => rfl) Try.sizeOf45 rfl rfl (by omega) rfl R396 (by first | omega | (simp only [List.length_set, eRuns_len]; omega)) rfl rfl (by decide) (by simp [Value.oneCell']) (by rw [show nth ((eRuns fE v.runs k).set k (⟨(nth v.runs k).frm, (nth v.runs k).to, (nth v.runs k).sp, ⟨(nth v.runs k).wt.lo, (nth v.runs k).wt.lo⟩⟩ : Run)) k = (⟨(nth v.runs k).frm, (nth v.runs k).to, (nth v.runs k).sp, ⟨(nth v.runs k).wt.lo, (nth v.runs k).wt.lo⟩⟩ : Run) by rw [nth_eq (by rw [List.length_set, eRuns_len]; omega)]; simp]; rfl) (fun w397 R399 u398 => ?_)
    have zu398 := u398.size
    exact dz0 rfl ⟨(u393.next u398 (fun i hi (h : i = bE) => show i = bE by first | omega | assumption)), (by show Wr encRun 6 59 w397 bE (((eRuns fE v.runs k).set k (⟨(nth v.runs k).frm, (nth v.runs k).to, (nth v.runs k).sp, ⟨(nth v.runs k).wt.lo, (nth v.runs k).wt.lo⟩⟩ : Run)).set k (fE (nth v.runs k))); exact R399)⟩
   intro ρ w401 hW
   obtain ⟨u402, R403⟩ := hW
   have zu402 := u402.size
   have R403 : Wr encRun 6 59 w401 bE (((eRuns fE v.runs k).set k (⟨(nth v.runs k).frm, (nth v.runs k).to, (nth v.runs k).sp, ⟨(nth v.runs k).wt.lo, (nth v.runs k).wt.lo⟩⟩ : Run)).set k (fE (nth v.runs k))) := R403
   refine QK.weak [(2, .pointer (some ⟨bk2, 0, none⟩)), (4, .bool false), (5, .int .i64 (frst v)), (6, .int .i64 (lst v)), (8, .int .i64 s), (9, .int .i64 place), (10, .pointer (some ⟨bk77, 0, none⟩)), (11, .int .i64 0), (12, .pointer (some ⟨bk100, 0, none⟩)), (13, .pointer (some ⟨bk105, 0, none⟩)), (14, .int .i64 (k : Int)), (15, .pointer (some ⟨bk302, 0, none⟩)), (86, .int .i64 (k : Int)), (87, .pointer (some ⟨bk2, 2, none⟩)), (88, .slice ao ((v.runs).length) cap), (89, .int .i64 ((v.runs).length : Int)), (90, .bool (decide ((k : Int) < ((v.runs).length : Int)))), (93, .pointer (some ⟨bk2, 2, none⟩)), (94, .slice ao ((v.runs).length) cap), (95, .int .i64 (k : Int)), (96, .pointer (some ⟨b, o + k * 6, none⟩)), (97, .agg #[.int .i64 ((nth v.runs k).frm), .int .i64 ((nth v.runs k).to), .int .i64 ((nth v.runs k).sp.lo), .int .i64 ((nth v.runs k).sp.hi), .int .i64 ((nth v.runs k).wt.lo), .int .i64 ((nth v.runs k).wt.hi)]), (98, .pointer (some ⟨bk100, 2, none⟩)), (99, .slice aoE ((v.runs).length) cpE), (100, .int .i64 (k : Int)), (101, .pointer (some ⟨bk100, 2, none⟩)), (102, .slice aoE ((v.runs).length) cpE), (103, .int .i64 (k : Int)), (104, .pointer (some ⟨bk302, 4, none⟩)), (105, .pointer (some ⟨bk302, 4, none⟩)), (106, .int .i64 ((nth v.runs k).wt.lo)), (107, .agg #[.int .i64 ((nth v.runs k).wt.lo), .int .i64 ((nth v.runs k).wt.lo)]), (108, .pointer (some ⟨bk302, 2, none⟩)), (109, .pointer (some ⟨bk302, 3, none⟩)), (110, .int .i64 ((nth v.runs k).sp.hi)), (111, .agg #[.int .i64 ((nth v.runs k).sp.hi), .int .i64 ((nth v.runs k).sp.hi)]), (112, .pointer (some ⟨bE, 0 + k * 6, none⟩)), (113, .pointer (some ⟨bE, 0 + k * 6 + 4, none⟩)), (114, .pointer (some ⟨bE, 0 + k * 6, none⟩)), (115, .pointer (some ⟨bE, 0 + k * 6 + 2, none⟩))] ⟨rfl, rfl, rfl, rfl, rfl, rfl, rfl, rfl, rfl, rfl, rfl, rfl, rfl, rfl, rfl, rfl, rfl, rfl, rfl, rfl, rfl, rfl, rfl, rfl, rfl, rfl, rfl, rfl, rfl, rfl, rfl, rfl, rfl, rfl, rfl, rfl, rfl, rfl, rfl, rfl, trivial⟩ (hK311 _ _ ?_)
   have B405 := ((((B283.keep u291 (show ¬ (bk105 = bE ∨ bk105 = bL) by first | omega | assumption)).keep u305 (fun h => h)).keep u308 (show ¬ (bk105 = bk302) by first | omega | assumption)).keep u402 (show ¬ (bk105 = bE) by first | omega | assumption))
   have B406 := (B309.keep u402 (show ¬ (bk302 = bE) by first | omega | assumption))
   have D421 := (((hWL.keep u305 (fun _ h => h)).keep u308 (fun _ => show ¬ (bL = bk302) by first | omega | assumption)).keep u402 (fun _ => show ¬ (bL = bE) by first | omega | assumption))
   refine WC.weak [(2, .pointer (some ⟨bk2, 0, none⟩)), (4, .bool false), (5, .int .i64 (frst v)), (6, .int .i64 (lst v)), (8, .int .i64 s), (9, .int .i64 place), (10, .pointer (some ⟨bk77, 0, none⟩)), (11, .int .i64 0), (12, .pointer (some ⟨bk100, 0, none⟩)), (13, .pointer (some ⟨bk105, 0, none⟩)), (14, .int .i64 (k : Int)), (15, .pointer (some ⟨bk302, 0, none⟩)), (86, .int .i64 (k : Int)), (87, .pointer (some ⟨bk2, 2, none⟩)), (88, .slice ao ((v.runs).length) cap), (89, .int .i64 ((v.runs).length : Int)), (90, .bool (decide ((k : Int) < ((v.runs).length : Int)))), (93, .pointer (some ⟨bk2, 2, none⟩)), (94, .slice ao ((v.runs).length) cap), (95, .int .i64 (k : Int)), (96, .pointer (some ⟨b, o + k * 6, none⟩)), (97, .agg #[.int .i64 ((nth v.runs k).frm), .int .i64 ((nth v.runs k).to), .int .i64 ((nth v.runs k).sp.lo), .int .i64 ((nth v.runs k).sp.hi), .int .i64 ((nth v.runs k).wt.lo), .int .i64 ((nth v.runs k).wt.hi)]), (98, .pointer (some ⟨bk100, 2, none⟩)), (99, .slice aoE ((v.runs).length) cpE), (100, .int .i64 (k : Int)), (101, .pointer (some ⟨bk100, 2, none⟩)), (102, .slice aoE ((v.runs).length) cpE), (103, .int .i64 (k : Int)), (104, .pointer (some ⟨bk302, 4, none⟩)), (105, .pointer (some ⟨bk302, 4, none⟩)), (106, .int .i64 ((nth v.runs k).wt.lo)), (107, .agg #[.int .i64 ((nth v.runs k).wt.lo), .int .i64 ((nth v.runs k).wt.lo)]), (108, .pointer (some ⟨bk302, 2, none⟩)), (109, .pointer (some ⟨bk302, 3, none⟩)), (110, .int .i64 ((nth v.runs k).sp.hi)), (111, .agg #[.int .i64 ((nth v.runs k).sp.hi), .int .i64 ((nth v.runs k).sp.hi)]), (112, .pointer (some ⟨bE, 0 + k * 6, none⟩)), (113, .pointer (some ⟨bE, 0 + k * 6 + 4, none⟩)), (114, .pointer (some ⟨bE, 0 + k * 6, none⟩)), (115, .pointer (some ⟨bE, 0 + k * 6 + 2, none⟩))] ⟨rfl, rfl, rfl, rfl, rfl, rfl, rfl, rfl, rfl, rfl, rfl, rfl, rfl, rfl, rfl, rfl, rfl, rfl, rfl, rfl, rfl, rfl, rfl, rfl, rfl, rfl, rfl, rfl, rfl, rfl, rfl, rfl, rfl, rfl, rfl, rfl, rfl, rfl, rfl, rfl, trivial⟩ (c_drawn follows 20 [some (116, some (.pointer (some ⟨bk105, 2, none⟩))), some (117, some (.slice aoL ((v.runs).length) cpL)), some (118, some (.int .i64 (k : Int))), some (119, some (.pointer (some ⟨bk105, 2, none⟩))), some (120, some (.slice aoL ((v.runs).length) cpL)), some (121, some (.int .i64 (k : Int))), some (122, some (.pointer (some ⟨bk302, 4, none⟩))), some (123, some (.pointer (some ⟨bk302, 5, none⟩))), some (124, some (.int .i64 ((nth v.runs k).wt.hi))), some (125, some (.agg #[.int .i64 ((nth v.runs k).wt.hi), .int .i64 ((nth v.runs k).wt.hi)])), some (126, some (.pointer (some ⟨bk302, 2, none⟩))), some (127, some (.pointer (some ⟨bk302, 2, none⟩))), some (128, some (.int .i64 ((nth v.runs k).sp.lo))), some (129, some (.agg #[.int .i64 ((nth v.runs k).sp.lo), .int .i64 ((nth v.runs k).sp.lo)])), some (130, some (.pointer (some ⟨bL, 0 + k * 6, none⟩))), some (131, some (.pointer (some ⟨bL, 0 + k * 6 + 4, none⟩))), none, some (132, some (.pointer (some ⟨bL, 0 + k * 6, none⟩))), some (133, some (.pointer (some ⟨bL, 0 + k * 6 + 2, none⟩))), none] [[],[0],[],[],[3],[],[],[6],[7],[8],[],[10],[11],[12,9],[1,2,0,1,2,6,7,8,9,13],[14,0,1,2,6,7,8,9,13],[15,9,13,0,1,2,6,7,8,9,13],[4,5,0,1,2,3,4,5,6,7,8,9,10,11,12,13,14,15,16],[17,0,1,2,3,4,5,6,7,8,9,10,11,12,13,14,15,16],[18,13,16,0,1,2,3,4,5,6,7,8,9,10,11,12,13,14,15,16]] (fun D _ w => Upd (fun i => i = bL) w401 w ∧ Wr encRun 6 59 w bL (bif D 19 then (((eRuns fL v.runs k).set k (⟨(nth v.runs k).frm, (nth v.runs k).to, (nth v.runs k).sp, ⟨(nth v.runs k).wt.hi, (nth v.runs k).wt.hi⟩⟩ : Run)).set k (fL (nth v.runs k))) else (bif D 16 then ((eRuns fL v.runs k).set k (⟨(nth v.runs k).frm, (nth v.runs k).to, (nth v.runs k).sp, ⟨(nth v.runs k).wt.hi, (nth v.runs k).wt.hi⟩⟩ : Run)) else (eRuns fL v.runs k)))) rfl rfl rfl (by kernel_rfl) (by kernel_rfl) ⟨(Upd.drew _).to, (D421.keep (Upd.drew _) (fun _ h => h))⟩ ⟨?_, ?_, ?_, ?_, ?_, ?_, ?_, ?_, ?_, ?_, ?_, ?_, ?_, ?_, ?_, ?_, ?_, ?_, ?_, ?_, trivial⟩ ?_)
   · exact fun D ρ w _ _ _ hW => ⟨[(13, .pointer (some ⟨bk105, 0, none⟩))], ⟨fo rfl rfl, trivial⟩, fun Lr => t_field Try.underlying48 rfl Try.sizeOf46 (2) rfl rfl rfl rfl (dz rfl hW)⟩
   ·
    intro D ρ w422 hcD hnD hdD hW
    obtain ⟨u423, R424⟩ := hW
    have zu423 := u423.size
    have d19 := (hcD.late 19 hnD rfl)
    have d16 := (hcD.late 16 hnD rfl)
    have R426 := R424
    simp only [d19, d16, cond_false] at R426
    refine ⟨[(116, .pointer (some ⟨bk105, 2, none⟩))], ⟨fi 0 rfl rfl rfl, trivial⟩, fun Lr => ?_⟩
    show WL _ _ _ _ _ _ _ ((116, .pointer (some ⟨bk105, 2, none⟩)) :: Lr) _
    have B427 := (B405.keep u423 (show ¬ (bk105 = bL) by first | omega | assumption))
    refine t_load Try.isAgg46 rfl rfl rfl (B427.get rfl) ?_
    exact dz rfl ⟨u423, R424⟩
   · exact fun D ρ w _ _ _ hW => ⟨[(14, .int .i64 (k : Int))], ⟨fo rfl rfl, trivial⟩, fun Lr => t_move rfl rfl rfl (dz rfl hW)⟩
   · exact fun D ρ w _ _ _ hW => ⟨[(13, .pointer (some ⟨bk105, 0, none⟩))], ⟨fo rfl rfl, trivial⟩, fun Lr => t_field Try.underlying48 rfl Try.sizeOf46 (2) rfl rfl rfl rfl (dz rfl hW)⟩
   ·
    intro D ρ w428 hcD hnD hdD hW
    obtain ⟨u429, R430⟩ := hW
    have zu429 := u429.size
    have d19 := (hcD.late 19 hnD rfl)
    refine ⟨[(119, .pointer (some ⟨bk105, 2, none⟩))], ⟨fi 3 rfl rfl rfl, trivial⟩, fun Lr => ?_⟩
    show WL _ _ _ _ _ _ _ ((119, .pointer (some ⟨bk105, 2, none⟩)) :: Lr) _
    have B432 := (B405.keep u429 (show ¬ (bk105 = bL) by first | omega | assumption))
    refine t_load Try.isAgg46 rfl rfl rfl (B432.get rfl) ?_
    exact dz rfl ⟨u429, R430⟩
   · exact fun D ρ w _ _ _ hW => ⟨[(14, .int .i64 (k : Int))], ⟨fo rfl rfl, trivial⟩, fun Lr => t_move rfl rfl rfl (dz rfl hW)⟩
   · exact fun D ρ w _ _ _ hW => ⟨[(15, .pointer (some ⟨bk302, 0, none⟩))], ⟨fo rfl rfl, trivial⟩, fun Lr => t_field Try.underlying59 rfl Try.sizeOf45 (4) rfl rfl rfl rfl (dz rfl hW)⟩
   · exact fun D ρ w _ _ _ hW => ⟨[(122, .pointer (some ⟨bk302, 4, none⟩))], ⟨fi 6 rfl rfl rfl, trivial⟩, fun Lr => t_field Try.underlying45 rfl Try.sizeOf3 (5) rfl rfl rfl rfl (dz rfl hW)⟩
   ·
    intro D ρ w433 hcD hnD hdD hW
    obtain ⟨u434, R435⟩ := hW
    have zu434 := u434.size
    have d19 := (hcD.late 19 hnD rfl)
    have d16 := (hcD.late 16 hnD rfl)
    have R437 := R435
    simp only [d19, d16, cond_false] at R437
    refine ⟨[(123, .pointer (some ⟨bk302, 5, none⟩))], ⟨fi 7 rfl rfl rfl, trivial⟩, fun Lr => ?_⟩
    show WL _ _ _ _ _ _ _ ((123, .pointer (some ⟨bk302, 5, none⟩)) :: Lr) _
    have B438 := (B406.keep u434 (show ¬ (bk302 = bL) by first | omega | assumption))
    refine t_load Try.isAgg3 rfl rfl rfl (B438.get rfl) ?_
    exact dz rfl ⟨u434, R435⟩
   ·
    intro D ρ w439 hcD hnD hdD hW
    obtain ⟨u440, R441⟩ := hW
    have zu440 := u440.size
    have d19 := (hcD.late 19 hnD rfl)
    have d16 := (hcD.late 16 hnD rfl)
    have R443 := R441
    simp only [d19, d16, cond_false] at R443
    refine ⟨[(124, .int .i64 ((nth v.runs k).wt.hi))], ⟨fi 8 rfl rfl rfl, trivial⟩, fun Lr => ?_⟩
    show WL _ _ _ _ _ _ _ ((124, .int .i64 ((nth v.runs k).wt.hi)) :: Lr) _
    refine t_call (vs := [.int .i64 ((nth v.runs k).wt.hi)]) own36 rfl rfl rfl rfl (exact_c ((nth v.runs k).wt.hi) _) (fun v444 w445 r447 => ?_)
    obtain ⟨rfl, u446⟩ := r447
    have zu446 := u446.size
    exact dz rfl ⟨(u440.next u446 (fun _ _ h => h.elim)), (R441.keep u446 (fun _ h => h))⟩
   · exact fun D ρ w _ _ _ hW => ⟨[(15, .pointer (some ⟨bk302, 0, none⟩))], ⟨fo rfl rfl, trivial⟩, fun Lr => t_field Try.underlying59 rfl Try.sizeOf45 (2) rfl rfl rfl rfl (dz rfl hW)⟩
   · exact fun D ρ w _ _ _ hW => ⟨[(126, .pointer (some ⟨bk302, 2, none⟩))], ⟨fi 10 rfl rfl rfl, trivial⟩, fun Lr => t_field Try.underlying45 rfl Try.sizeOf3 (2) rfl rfl rfl rfl (dz rfl hW)⟩
   ·
    intro D ρ w449 hcD hnD hdD hW
    obtain ⟨u450, R451⟩ := hW
    have zu450 := u450.size
    have d19 := (hcD.late 19 hnD rfl)
    have d16 := (hcD.late 16 (hcD.late 13 hnD rfl) rfl)
    have R453 := R451
    simp only [d19, d16, cond_false] at R453
    refine ⟨[(127, .pointer (some ⟨bk302, 2, none⟩))], ⟨fi 11 rfl rfl rfl, trivial⟩, fun Lr => ?_⟩
    show WL _ _ _ _ _ _ _ ((127, .pointer (some ⟨bk302, 2, none⟩)) :: Lr) _
    have B454 := (B406.keep u450 (show ¬ (bk302 = bL) by first | omega | assumption))
    refine t_load Try.isAgg3 rfl rfl rfl (B454.get rfl) ?_
    exact dz rfl ⟨u450, R451⟩
   ·
    intro D ρ w455 hcD hnD hdD hW
    obtain ⟨u456, R457⟩ := hW
    have zu456 := u456.size
    have d19 := (hcD.late 19 hnD rfl)
    have d16 := (hcD.late 16 hnD rfl)
    have R459 := R457
    simp only [d19, d16, cond_false] at R459
    refine ⟨[(128, .int .i64 ((nth v.runs k).sp.lo))], ⟨fi 12 rfl rfl rfl, trivial⟩, fun Lr => ?_⟩
    show WL _ _ _ _ _ _ _ ((128, .int .i64 ((nth v.runs k).sp.lo)) :: Lr) _
    refine t_call (vs := [.int .i64 ((nth v.runs k).sp.lo)]) own36 rfl rfl rfl rfl (exact_c ((nth v.runs k).sp.lo) _) (fun v460 w461 r463 => ?_)
    obtain ⟨rfl, u462⟩ := r463
    have zu462 := u462.size
    exact dz rfl ⟨(u456.next u462 (fun _ _ h => h.elim)), (R457.keep u462 (fun _ h => h))⟩
   ·
    intro D ρ w465 hcD hnD hdD hW
    obtain ⟨u466, R467⟩ := hW
    have zu466 := u466.size
    have d19 := (hcD.late 19 hnD rfl)
    have d16 := (hcD.late 16 (hcD.late 15 hnD rfl) rfl)
    have R469 := R467
    simp only [d19, d16, cond_false] at R469
    refine ⟨[(117, .slice aoL ((v.runs).length) cpL), (118, .int .i64 (k : Int))], ⟨fi 1 rfl rfl rfl, fi 2 rfl rfl rfl, trivial⟩, fun Lr => ?_⟩
    show WL _ _ _ _ _ _ _ ((117, .slice aoL ((v.runs).length) cpL) :: (118, .int .i64 (k : Int)) :: Lr) _
    have i470 : k < (eRuns fL v.runs k).length := (by rw [eRuns_len]; omega)
    refine t_index (j := k) Try.underlying46 Try.sizeOf59 rfl rfl rfl rfl ((R469.sl (fun _ => haoL)).addr (by omega)) rfl (by omega) ?_
    exact dz rfl ⟨u466, R467⟩
   · exact fun D ρ w _ _ _ hW => ⟨[(130, .pointer (some ⟨bL, 0 + k * 6, none⟩))], ⟨fi 14 rfl rfl rfl, trivial⟩, fun Lr => t_field Try.underlying59 rfl Try.sizeOf45 (0 + k * 6 + 4) rfl rfl rfl rfl (dz rfl hW)⟩
   ·
    intro D ρ w471 hcD hnD hdD hW
    obtain ⟨u472, R473⟩ := hW
    have zu472 := u472.size
    have d19 := (hcD.late 19 hnD rfl)
    have R475 := R473
    simp only [d19, hnD, cond_false] at R475
    refine ⟨[(125, .agg #[.int .i64 ((nth v.runs k).wt.hi), .int .i64 ((nth v.runs k).wt.hi)]), (131, .pointer (some ⟨bL, 0 + k * 6 + 4, none⟩))], ⟨fi 9 rfl rfl rfl, fi 15 rfl rfl rfl, trivial⟩, fun Lr => ?_⟩
    show WL _ _ _ _ _ _ _ ((125, .agg #[.int .i64 ((nth v.runs k).wt.hi), .int .i64 ((nth v.runs k).wt.hi)]) :: (131, .pointer (some ⟨bL, 0 + k * 6 + 4, none⟩)) :: Lr) _
    refine t_storeW (vs := [.int .i64 ((nth v.runs k).wt.hi), .int .i64 ((nth v.runs k).wt.hi)]) (j := k) (o' := 4) (k := 6) (⟨(nth v.runs k).frm, (nth v.runs k).to, (nth v.runs k).sp, ⟨(nth v.runs k).wt.hi, (nth v.runs k).wt.hi⟩⟩ : Run) (fun _ => rfl) Try.sizeOf45 rfl rfl (by omega) rfl R475 (by first | omega | (simp only [List.length_set, eRuns_len]; omega)) rfl rfl (by decide) (by simp [Value.oneCell']) (by rw [eRuns_at (by omega)]; rfl) (fun w476 R478 u477 => ?_)
    have zu477 := u477.size
    exact dz0 rfl ⟨(u472.next u477 (fun i hi (h : i = bL) => show i = bL by first | omega | assumption)), (by show Wr encRun 6 59 w476 bL (bif D 19 then (((eRuns fL v.runs k).set k (⟨(nth v.runs k).frm, (nth v.runs k).to, (nth v.runs k).sp, ⟨(nth v.runs k).wt.hi, (nth v.runs k).wt.hi⟩⟩ : Run)).set k (fL (nth v.runs k))) else ((eRuns fL v.runs k).set k (⟨(nth v.runs k).frm, (nth v.runs k).to, (nth v.runs k).sp, ⟨(nth v.runs k).wt.hi, (nth v.runs k).wt.hi⟩⟩ : Run))); simp only [d19, cond_false]; exact R478)⟩
   ·
    intro D ρ w480 hcD hnD hdD hW
    obtain ⟨u481, R482⟩ := hW
    have zu481 := u481.size
    have d19 := (hcD.late 19 (hcD.late 18 hnD rfl) rfl)
    have d16 := (hdD 16 rfl)
    have R484 := R482
    simp only [d19, d16, cond_true, cond_false] at R484
    refine ⟨[(120, .slice aoL ((v.runs).length) cpL), (121, .int .i64 (k : Int))], ⟨fi 4 rfl rfl rfl, fi 5 rfl rfl rfl, trivial⟩, fun Lr => ?_⟩
    show WL _ _ _ _ _ _ _ ((120, .slice aoL ((v.runs).length) cpL) :: (121, .int .i64 (k : Int)) :: Lr) _
    have i485 : k < ((eRuns fL v.runs k).set k (⟨(nth v.runs k).frm, (nth v.runs k).to, (nth v.runs k).sp, ⟨(nth v.runs k).wt.hi, (nth v.runs k).wt.hi⟩⟩ : Run)).length := (by rw [List.length_set, eRuns_len]; omega)
    refine t_index (j := k) Try.underlying46 Try.sizeOf59 rfl rfl rfl rfl ((R484.sl (fun _ => haoL)).addr (by omega)) rfl (by omega) ?_
    exact dz rfl ⟨u481, R482⟩
   · exact fun D ρ w _ _ _ hW => ⟨[(132, .pointer (some ⟨bL, 0 + k * 6, none⟩))], ⟨fi 17 rfl rfl rfl, trivial⟩, fun Lr => t_field Try.underlying59 rfl Try.sizeOf45 (0 + k * 6 + 2) rfl rfl rfl rfl (dz rfl hW)⟩
   ·
    intro D ρ w486 hcD hnD hdD hW
    obtain ⟨u487, R488⟩ := hW
    have zu487 := u487.size
    have d16 := (hdD 16 rfl)
    have R490 := R488
    simp only [hnD, d16, cond_true, cond_false] at R490
    refine ⟨[(129, .agg #[.int .i64 ((nth v.runs k).sp.lo), .int .i64 ((nth v.runs k).sp.lo)]), (133, .pointer (some ⟨bL, 0 + k * 6 + 2, none⟩))], ⟨fi 13 rfl rfl rfl, fi 18 rfl rfl rfl, trivial⟩, fun Lr => ?_⟩
    show WL _ _ _ _ _ _ _ ((129, .agg #[.int .i64 ((nth v.runs k).sp.lo), .int .i64 ((nth v.runs k).sp.lo)]) :: (133, .pointer (some ⟨bL, 0 + k * 6 + 2, none⟩)) :: Lr) _
    refine t_storeW (vs := [.int .i64 ((nth v.runs k).sp.lo), .int .i64 ((nth v.runs k).sp.lo)]) (j := k) (o' := 2) (k := 6) (fL (nth v.runs k)) (fun _ => rfl) Try.sizeOf45 rfl rfl (by omega) rfl R490 (by first | omega | (simp only [List.length_set, eRuns_len]; omega)) rfl rfl (by decide) (by simp [Value.oneCell']) (by rw [show nth ((eRuns fL v.runs k).set k (⟨(nth v.runs k).frm, (nth v.runs k).to, (nth v.runs k).sp, ⟨(nth v.runs k).wt.hi, (nth v.runs k).wt.hi⟩⟩ : Run)) k = (⟨(nth v.runs k).frm, (nth v.runs k).to, (nth v.runs k).sp, ⟨(nth v.runs k).wt.hi, (nth v.runs k).wt.hi⟩⟩ : Run) by rw [nth_eq (by rw [List.length_set, eRuns_len]; omega)]; simp]; rfl) (fun w491 R493 u492 => ?_)
    have zu492 := u492.size
    exact dz0 rfl ⟨(u487.next u492 (fun i hi (h : i = bL) => show i = bL by first | omega | assumption)), (by show Wr encRun 6 59 w491 bL (((eRuns fL v.runs k).set k (⟨(nth v.runs k).frm, (nth v.runs k).to, (nth v.runs k).sp, ⟨(nth v.runs k).wt.hi, (nth v.runs k).wt.hi⟩⟩ : Run)).set k (fL (nth v.runs k))); exact R493)⟩
   intro ρ w495 hW
   obtain ⟨u496, R497⟩ := hW
   have zu496 := u496.size
   have R497 : Wr encRun 6 59 w495 bL (((eRuns fL v.runs k).set k (⟨(nth v.runs k).frm, (nth v.runs k).to, (nth v.runs k).sp, ⟨(nth v.runs k).wt.hi, (nth v.runs k).wt.hi⟩⟩ : Run)).set k (fL (nth v.runs k))) := R497
   refine QK.weak [(2, .pointer (some ⟨bk2, 0, none⟩)), (4, .bool false), (5, .int .i64 (frst v)), (6, .int .i64 (lst v)), (8, .int .i64 s), (9, .int .i64 place), (10, .pointer (some ⟨bk77, 0, none⟩)), (11, .int .i64 0), (12, .pointer (some ⟨bk100, 0, none⟩)), (13, .pointer (some ⟨bk105, 0, none⟩)), (14, .int .i64 (k : Int)), (15, .pointer (some ⟨bk302, 0, none⟩)), (86, .int .i64 (k : Int)), (87, .pointer (some ⟨bk2, 2, none⟩)), (88, .slice ao ((v.runs).length) cap), (89, .int .i64 ((v.runs).length : Int)), (90, .bool (decide ((k : Int) < ((v.runs).length : Int)))), (93, .pointer (some ⟨bk2, 2, none⟩)), (94, .slice ao ((v.runs).length) cap), (95, .int .i64 (k : Int)), (96, .pointer (some ⟨b, o + k * 6, none⟩)), (97, .agg #[.int .i64 ((nth v.runs k).frm), .int .i64 ((nth v.runs k).to), .int .i64 ((nth v.runs k).sp.lo), .int .i64 ((nth v.runs k).sp.hi), .int .i64 ((nth v.runs k).wt.lo), .int .i64 ((nth v.runs k).wt.hi)]), (98, .pointer (some ⟨bk100, 2, none⟩)), (99, .slice aoE ((v.runs).length) cpE), (100, .int .i64 (k : Int)), (101, .pointer (some ⟨bk100, 2, none⟩)), (102, .slice aoE ((v.runs).length) cpE), (103, .int .i64 (k : Int)), (104, .pointer (some ⟨bk302, 4, none⟩)), (105, .pointer (some ⟨bk302, 4, none⟩)), (106, .int .i64 ((nth v.runs k).wt.lo)), (107, .agg #[.int .i64 ((nth v.runs k).wt.lo), .int .i64 ((nth v.runs k).wt.lo)]), (108, .pointer (some ⟨bk302, 2, none⟩)), (109, .pointer (some ⟨bk302, 3, none⟩)), (110, .int .i64 ((nth v.runs k).sp.hi)), (111, .agg #[.int .i64 ((nth v.runs k).sp.hi), .int .i64 ((nth v.runs k).sp.hi)]), (112, .pointer (some ⟨bE, 0 + k * 6, none⟩)), (113, .pointer (some ⟨bE, 0 + k * 6 + 4, none⟩)), (114, .pointer (some ⟨bE, 0 + k * 6, none⟩)), (115, .pointer (some ⟨bE, 0 + k * 6 + 2, none⟩)), (116, .pointer (some ⟨bk105, 2, none⟩)), (117, .slice aoL ((v.runs).length) cpL), (118, .int .i64 (k : Int)), (119, .pointer (some ⟨bk105, 2, none⟩)), (120, .slice aoL ((v.runs).length) cpL), (121, .int .i64 (k : Int)), (122, .pointer (some ⟨bk302, 4, none⟩)), (123, .pointer (some ⟨bk302, 5, none⟩)), (124, .int .i64 ((nth v.runs k).wt.hi)), (125, .agg #[.int .i64 ((nth v.runs k).wt.hi), .int .i64 ((nth v.runs k).wt.hi)]), (126, .pointer (some ⟨bk302, 2, none⟩)), (127, .pointer (some ⟨bk302, 2, none⟩)), (128, .int .i64 ((nth v.runs k).sp.lo)), (129, .agg #[.int .i64 ((nth v.runs k).sp.lo), .int .i64 ((nth v.runs k).sp.lo)]), (130, .pointer (some ⟨bL, 0 + k * 6, none⟩)), (131, .pointer (some ⟨bL, 0 + k * 6 + 4, none⟩)), (132, .pointer (some ⟨bL, 0 + k * 6, none⟩)), (133, .pointer (some ⟨bL, 0 + k * 6 + 2, none⟩))] ⟨rfl, rfl, rfl, rfl, rfl, rfl, rfl, rfl, rfl, rfl, rfl, rfl, rfl, rfl, rfl, rfl, rfl, rfl, rfl, rfl, rfl, rfl, rfl, rfl, rfl, rfl, rfl, rfl, rfl, rfl, rfl, rfl, rfl, rfl, rfl, rfl, rfl, rfl, rfl, rfl, rfl, rfl, rfl, rfl, rfl, rfl, rfl, rfl, rfl, rfl, rfl, rfl, rfl, rfl, rfl, rfl, rfl, rfl, trivial⟩ (hK299 _ _ (c_region (t_move rfl rfl rfl (t_ari rfl rfl rfl rfl rfl (by omega) (t_assign rfl rfl rfl (t_nil' ?_))))))
   have D499 := (R403.keep u496 (fun _ => show ¬ (bE = bL) by first | omega | assumption))
   exact hK289 (k + 1) _ _ (by omega) ⟨rfl, rfl, rfl, rfl, rfl, rfl, rfl, rfl, rfl, rfl, rfl, trivial⟩ ⟨((((u291.next u305 (fun _ _ h => h.elim)).next u308 (fun i hi (h : i = bk302) => show i = bE ∨ i = bL by first | omega | assumption)).next u402 (fun i hi (h : i = bE) => show i = bE ∨ i = bL by first | omega | assumption)).next u496 (fun i hi (h : i = bL) => show i = bE ∨ i = bL by first | omega | assumption)), (by omega), (by rw [← eRuns_step (by omega)]; exact D499), (by rw [← eRuns_step (by omega)]; exact R497)⟩
  ·
   have hallE : Wr encRun 6 59 w290 bE (eV v).runs := by have h := hWE; rw [eRuns_all (by omega)] at h; exact h
   have hslE : Sl encRun 6 w290 aoE bE 0 (eV v).runs := hallE.sl (fun _ => haoE)
   have hallL : Wr encRun 6 59 w290 bL (lV v).runs := by have h := hWL; rw [eRuns_all (by omega)] at h; exact h
   have hslL : Sl encRun 6 w290 aoL bL 0 (lV v).runs := hallL.sl (fun _ => haoL)
   have hlE : (eV v).runs.length = v.runs.length ∧ (lV v).runs.length = v.runs.length := ⟨List.length_map .., List.length_map ..⟩
   refine c_exit (hK285 _ _ (c_seq fun K500 hK500 => (c_region ?_)))
   have B501 := (B282.keep u291 (show ¬ (bk100 = bE ∨ bk100 = bL) by first | omega | assumption))
   refine t_loadN (vs := [.int .i64 v.st.lo, .int .i64 v.st.lo, .slice aoE ((v.runs).length) cpE, .int .i64 v.len, .int .i64 v.wid]) Try.isAgg48 Try.sizeOf48 rfl rfl rfl (B501.at.sub 0 5) rfl (t_move rfl rfl rfl (t_call (vs := [.agg #[.int .i64 v.st.lo, .int .i64 v.st.lo, .slice aoE ((v.runs).length) cpE, .int .i64 v.len, .int .i64 v.wid], .int .i64 place]) own30 rfl rfl rfl rfl (ArriveM_c (eV v) v.runs.length aoE bE 0 cpE place _ hslE (by omega) (by omega)) (fun v502 w503 r505 => ?_)))
   obtain ⟨rfl, u504⟩ := r505
   have zu504 := u504.size
   have E506 := E295.next u504 (fun _ _ h => h.elim)
   refine t_move rfl rfl rfl (t_extract (vs := [.agg #[.int .i64 ((ArrB (eV v) place).lo), .int .i64 ((ArrB (eV v) place).hi)], .int .i64 (ArrE (eV v) place)]) rfl rfl rfl rfl (t_extract (vs := [.agg #[.int .i64 ((ArrB (eV v) place).lo), .int .i64 ((ArrB (eV v) place).hi)], .int .i64 (ArrE (eV v) place)]) rfl rfl rfl rfl (t_alloc (cs := [.int .i64 0, .int .i64 0]) Try.zeroValue45 rfl rfl rfl (fun bk507 w508 ebk507 sbk507 B509 u510 => ?_))))
   have zu510 := u510.size
   have E511 := E506.next u510 (fun _ _ h => h.elim)
   refine t_store (vs := [.int .i64 ((ArrB (eV v) place).lo), .int .i64 ((ArrB (eV v) place).hi)]) Try.sizeOf45 rfl rfl rfl B509 rfl rfl (Nat.le_of_ble_eq_true rfl) (by simp [Value.oneCell']) (fun w512 sw512 B514 u513 => ?_)
   have zu513 := u513.size
   have E515 := E511.next u513 (fun i hi (h : i = bk507) => show False by first | omega | assumption)
   have B514 : Blk w512 bk507 45 [.int .i64 ((ArrB (eV v) place).lo), .int .i64 ((ArrB (eV v) place).hi)] := B514
   refine t_assign rfl rfl rfl (t_nil' (hK500 _ _ (c_seq fun K516 hK516 => (c_region ?_))))
   have B517 := ((((B283.keep u291 (show ¬ (bk105 = bE ∨ bk105 = bL) by first | omega | assumption)).keep u504 (fun h => h)).keep u510 (fun h => h)).keep u513 (show ¬ (bk105 = bk507) by first | omega | assumption))
   refine t_loadN (vs := [.int .i64 v.st.hi, .int .i64 v.st.hi, .slice aoL ((v.runs).length) cpL, .int .i64 v.len, .int .i64 v.wid]) Try.isAgg48 Try.sizeOf48 rfl rfl rfl (B517.at.sub 0 5) rfl (t_move rfl rfl rfl ?_)
   have D518 := (((hslL.keep u504 (fun _ h => h)).keep u510 (fun _ h => h)).keep u513 (fun _ => show ¬ (bL = bk507) by first | omega | assumption))
   refine t_call (vs := [.agg #[.int .i64 v.st.hi, .int .i64 v.st.hi, .slice aoL ((v.runs).length) cpL, .int .i64 v.len, .int .i64 v.wid], .int .i64 place]) own30 rfl rfl rfl rfl (ArriveM_c (lV v) v.runs.length aoL bL 0 cpL place _ D518 (by omega) (by omega)) (fun v519 w520 r522 => ?_)
   obtain ⟨rfl, u521⟩ := r522
   have zu521 := u521.size
   have E523 := E515.next u521 (fun _ _ h => h.elim)
   refine t_move rfl rfl rfl (t_extract (vs := [.agg #[.int .i64 ((ArrB (lV v) place).lo), .int .i64 ((ArrB (lV v) place).hi)], .int .i64 (ArrE (lV v) place)]) rfl rfl rfl rfl (t_extract (vs := [.agg #[.int .i64 ((ArrB (lV v) place).lo), .int .i64 ((ArrB (lV v) place).hi)], .int .i64 (ArrE (lV v) place)]) rfl rfl rfl rfl (t_alloc (cs := [.int .i64 0, .int .i64 0]) Try.zeroValue45 rfl rfl rfl (fun bk524 w525 ebk524 sbk524 B526 u527 => ?_))))
   have zu527 := u527.size
   have E528 := E523.next u527 (fun _ _ h => h.elim)
   refine t_store (vs := [.int .i64 ((ArrB (lV v) place).lo), .int .i64 ((ArrB (lV v) place).hi)]) Try.sizeOf45 rfl rfl rfl B526 rfl rfl (Nat.le_of_ble_eq_true rfl) (by simp [Value.oneCell']) (fun w529 sw529 B531 u530 => ?_)
   have zu530 := u530.size
   have E532 := E528.next u530 (fun i hi (h : i = bk524) => show False by first | omega | assumption)
   have B531 : Blk w529 bk524 45 [.int .i64 ((ArrB (lV v) place).lo), .int .i64 ((ArrB (lV v) place).hi)] := B531
   refine t_assign rfl rfl rfl (t_nil' (hK516 _ _ (c_seq fun K533 hK533 => (c_seq fun K534 hK534 => ?_))))
   have hAE := ArrE_on hK.1 ((onWay_ends v place).1.trans hon)
   have hAL := ArrE_on hK.2 ((onWay_ends v place).2.trans hon)
   have hAA := arr_ends v place
   refine c_same 17 (v := .int .i64 0) rfl (congrArg (Value.int .i64) hAE.1) ?_
   have B535 := (((B514.keep u521 (fun h => h)).keep u527 (fun h => h)).keep u530 (show ¬ (bk507 = bk524) by first | omega | assumption))
   have B536 : Blk w529 bk507 45 [.int .i64 ((arr v place).lo), .int .i64 ((arr v place).lo)] := by
    have e : ([.int .i64 ((ArrB (eV v) place).lo), .int .i64 ((ArrB (eV v) place).hi)] : List Value) = [.int .i64 ((arr v place).lo), .int .i64 ((arr v place).lo)] := by rw [hAE.2, hAA.1]
    rw [← e]; exact B535
   refine c_same 19 (v := .int .i64 0) rfl (congrArg (Value.int .i64) hAL.1) ?_
   have B537 : Blk w529 bk524 45 [.int .i64 ((arr v place).hi), .int .i64 ((arr v place).hi)] := by
    have e : ([.int .i64 ((ArrB (lV v) place).lo), .int .i64 ((ArrB (lV v) place).hi)] : List Value) = [.int .i64 ((arr v place).hi), .int .i64 ((arr v place).hi)] := by rw [hAL.2, hAA.2]
    rw [← e]; exact B531
   have g9175 : ¬ (arr v place).hi < (arr v place).lo := by omega
   have g9183 : ¬ (arr v place).lo < v.st.lo := by omega
   have B538 := ((((((B298.keep u504 (fun h => h)).keep u510 (fun h => h)).keep u513 (show ¬ (bk2 = bk507) by first | omega | assumption)).keep u521 (fun h => h)).keep u527 (fun h => h)).keep u530 (show ¬ (bk2 = bk524) by first | omega | assumption))
   have B539 := (((((((((((B87.keep u181 (fun h => h)).keep u197 (show ¬ (bk77 = bk100) by first | omega | assumption)).keep u202 (show ¬ (bk77 = bk105) by first | omega | assumption)).keep u281 (show ¬ (bk77 = bk100 ∨ bk77 = bk105) by first | omega | assumption)).keep u291 (show ¬ (bk77 = bE ∨ bk77 = bL) by first | omega | assumption)).keep u504 (fun h => h)).keep u510 (fun h => h)).keep u513 (show ¬ (bk77 = bk507) by first | omega | assumption)).keep u521 (fun h => h)).keep u527 (fun h => h)).keep u530 (show ¬ (bk77 = bk524) by first | omega | assumption))
   refine WC.weak [(2, .pointer (some ⟨bk2, 0, none⟩)), (4, .bool false), (5, .int .i64 (frst v)), (6, .int .i64 (lst v)), (8, .int .i64 s), (9, .int .i64 place), (10, .pointer (some ⟨bk77, 0, none⟩)), (11, .int .i64 0), (16, .pointer (some ⟨bk507, 0, none⟩)), (17, .int .i64 0), (18, .pointer (some ⟨bk524, 0, none⟩)), (19, .int .i64 0)] ⟨rfl, rfl, rfl, rfl, rfl, rfl, rfl, rfl, rfl, rfl, rfl, rfl, trivial⟩ (c_drawn follows 39 [some (146, some (.int .i64 0)), some (147, some (.bool false)), some (148, some (.bool false)), some (149, some (.int .i64 0)), some (150, some (.bool false)), some (151, some (.bool false)), some (152, some (.bool false)), some (153, some (.int .i64 0)), some (154, some (.bool false)), some (155, some (.bool false)), some (156, some (.bool false)), some (157, some (.agg #[.int .i64 ((arr v place).lo), .int .i64 ((arr v place).lo)])), some (158, some (.pointer (some ⟨bk77, 0, none⟩))), some (159, some (.int .i64 ((arr v place).lo))), some (160, some (.agg #[.int .i64 ((arr v place).lo), .int .i64 ((arr v place).lo)])), some (161, some (.bool false)), some (162, some (.bool false)), some (163, some (.bool false)), some (164, some (.agg #[.int .i64 ((arr v place).hi), .int .i64 ((arr v place).hi)])), some (165, some (.pointer (some ⟨bk77, 1, none⟩))), some (166, some (.int .i64 ((arr v place).hi))), some (167, some (.agg #[.int .i64 ((arr v place).hi), .int .i64 ((arr v place).hi)])), some (168, some (.bool false)), some (169, some (.bool false)), some (170, some (.bool false)), some (171, some (.pointer (some ⟨bk77, 0, none⟩))), some (172, some (.int .i64 ((arr v place).lo))), some (173, some (.pointer (some ⟨bk77, 1, none⟩))), some (174, some (.int .i64 ((arr v place).hi))), some (175, some (.bool false)), some (176, some (.bool false)), some (177, some (.bool false)), some (178, some (.pointer (some ⟨bk77, 0, none⟩))), some (179, some (.int .i64 ((arr v place).lo))), some (180, some (.pointer (some ⟨bk2, 0, none⟩))), some (181, some (.pointer (some ⟨bk2, 0, none⟩))), some (182, some (.int .i64 v.st.lo)), some (183, some (.bool false)), some (184, some (.bool false))] [[],[0],[1],[2],[3,2],[2,4],[5,2],[6],[7,6],[6,8],[9,6],[10],[10],[12,10],[13,10,10],[11,14,10],[10,15],[16,14],[17],[17],[19,17],[20,17,17],[18,21,17],[17,22],[23,21],[24],[25,24],[24],[27,24],[26,28,24],[24,29],[30,24],[31],[32,31],[31],[34,31],[35,31],[33,36,31],[31,37]] (fun _ _ w => Upd (fun _ => False) w529 w) rfl rfl rfl (by kernel_rfl) (by kernel_rfl) (Upd.drew _).to ⟨?_, ?_, ?_, ?_, ?_, ?_, ?_, ?_, ?_, ?_, ?_, ?_, ?_, ?_, ?_, ?_, ?_, ?_, ?_, ?_, ?_, ?_, ?_, ?_, ?_, ?_, ?_, ?_, ?_, ?_, ?_, ?_, ?_, ?_, ?_, ?_, ?_, ?_, ?_, trivial⟩ ?_)
   · exact fun D ρ w _ _ _ hW => ⟨[(11, .int .i64 0)], ⟨fo rfl rfl, trivial⟩, fun Lr => t_move rfl rfl rfl (dz rfl hW)⟩
   ·
    intro D ρ w554 hcD hnD hdD hW
    have zhW := hW.size
    refine ⟨[(146, .int .i64 0)], ⟨fi 0 rfl rfl rfl, trivial⟩, fun Lr => ?_⟩
    show WL _ _ _ _ _ _ _ ((146, .int .i64 0) :: Lr) _
    refine t_cmp rfl rfl rfl rfl rfl (t_samehd (v := .bool false) rfl ?_)
    exact dz rfl hW
   · exact fun D ρ w _ _ _ hW => ⟨[(147, .bool false)], ⟨fi 1 rfl rfl rfl, trivial⟩, fun Lr => t_move rfl rfl rfl (dz rfl hW)⟩
   · exact fun D ρ w _ _ _ hW => ⟨[(17, .int .i64 0), (148, .bool false)], ⟨fo rfl rfl, fi 2 rfl rfl rfl, trivial⟩, fun Lr => t_move rfl rfl rfl (dz rfl hW)⟩
   ·
    intro D ρ w557 hcD hnD hdD hW
    have zhW := hW.size
    refine ⟨[(148, .bool false), (149, .int .i64 0)], ⟨fi 2 rfl rfl rfl, fi 3 rfl rfl rfl, trivial⟩, fun Lr => ?_⟩
    show WL _ _ _ _ _ _ _ ((148, .bool false) :: (149, .int .i64 0) :: Lr) _
    refine t_cmp rfl rfl rfl rfl rfl (t_samehd (v := .bool false) rfl ?_)
    exact dz rfl hW
   · exact fun D ρ w _ _ _ hW => ⟨[(148, .bool false), (150, .bool false)], ⟨fi 2 rfl rfl rfl, fi 4 rfl rfl rfl, trivial⟩, fun Lr => t_pick_f rfl rfl rfl rfl (dz rfl hW)⟩
   · exact fun D ρ w _ _ _ hW => ⟨[(151, .bool false)], ⟨fi 5 rfl rfl rfl, trivial⟩, fun Lr => t_move rfl rfl rfl (dz rfl hW)⟩
   · exact fun D ρ w _ _ _ hW => ⟨[(19, .int .i64 0), (152, .bool false)], ⟨fo rfl rfl, fi 6 rfl rfl rfl, trivial⟩, fun Lr => t_move rfl rfl rfl (dz rfl hW)⟩
   ·
    intro D ρ w560 hcD hnD hdD hW
    have zhW := hW.size
    refine ⟨[(152, .bool false), (153, .int .i64 0)], ⟨fi 6 rfl rfl rfl, fi 7 rfl rfl rfl, trivial⟩, fun Lr => ?_⟩
    show WL _ _ _ _ _ _ _ ((152, .bool false) :: (153, .int .i64 0) :: Lr) _
    refine t_cmp rfl rfl rfl rfl rfl (t_samehd (v := .bool false) rfl ?_)
    exact dz rfl hW
   · exact fun D ρ w _ _ _ hW => ⟨[(152, .bool false), (154, .bool false)], ⟨fi 6 rfl rfl rfl, fi 8 rfl rfl rfl, trivial⟩, fun Lr => t_pick_f rfl rfl rfl rfl (dz rfl hW)⟩
   · exact fun D ρ w _ _ _ hW => ⟨[(155, .bool false)], ⟨fi 9 rfl rfl rfl, trivial⟩, fun Lr => t_move rfl rfl rfl (dz rfl hW)⟩
   ·
    intro D ρ w563 hcD hnD hdD hW
    have zhW := hW.size
    refine ⟨[(16, .pointer (some ⟨bk507, 0, none⟩)), (156, .bool false)], ⟨fo rfl rfl, fi 10 rfl rfl rfl, trivial⟩, fun Lr => ?_⟩
    show WL _ _ _ _ _ _ _ ((16, .pointer (some ⟨bk507, 0, none⟩)) :: (156, .bool false) :: Lr) _
    have B566 := (B536.keep hW (fun h => h))
    refine t_loadN (vs := [.int .i64 ((arr v place).lo), .int .i64 ((arr v place).lo)]) Try.isAgg45 Try.sizeOf45 rfl rfl rfl (B566.at.sub 0 2) rfl ?_
    exact dz rfl hW
   · exact fun D ρ w _ _ _ hW => ⟨[(10, .pointer (some ⟨bk77, 0, none⟩)), (156, .bool false)], ⟨fo rfl rfl, fi 10 rfl rfl rfl, trivial⟩, fun Lr => t_field Try.underlying45 rfl Try.sizeOf3 (0) rfl rfl rfl rfl (dz rfl hW)⟩
   ·
    intro D ρ w567 hcD hnD hdD hW
    have zhW := hW.size
    refine ⟨[(156, .bool false), (158, .pointer (some ⟨bk77, 0, none⟩))], ⟨fi 10 rfl rfl rfl, fi 12 rfl rfl rfl, trivial⟩, fun Lr => ?_⟩
    show WL _ _ _ _ _ _ _ ((156, .bool false) :: (158, .pointer (some ⟨bk77, 0, none⟩)) :: Lr) _
    have B570 := (B539.keep hW (fun h => h))
    refine t_load Try.isAgg3 rfl rfl rfl (B570.get rfl) ?_
    exact dz rfl hW
   ·
    intro D ρ w571 hcD hnD hdD hW
    have zhW := hW.size
    refine ⟨[(156, .bool false), (159, .int .i64 ((arr v place).lo))], ⟨fi 10 rfl rfl rfl, fi 13 rfl rfl rfl, trivial⟩, fun Lr => ?_⟩
    show WL _ _ _ _ _ _ _ ((156, .bool false) :: (159, .int .i64 ((arr v place).lo)) :: Lr) _
    refine t_call (vs := [.int .i64 ((arr v place).lo)]) own36 rfl rfl rfl rfl (exact_c ((arr v place).lo) _) (fun v574 w575 r577 => ?_)
    obtain ⟨rfl, u576⟩ := r577
    have zu576 := u576.size
    exact dz rfl (hW.next u576 (fun _ _ h => h.elim))
   ·
    intro D ρ w579 hcD hnD hdD hW
    have zhW := hW.size
    refine ⟨[(156, .bool false), (157, .agg #[.int .i64 ((arr v place).lo), .int .i64 ((arr v place).lo)]), (160, .agg #[.int .i64 ((arr v place).lo), .int .i64 ((arr v place).lo)])], ⟨fi 10 rfl rfl rfl, fi 11 rfl rfl rfl, fi 14 rfl rfl rfl, trivial⟩, fun Lr => ?_⟩
    show WL _ _ _ _ _ _ _ ((156, .bool false) :: (157, .agg #[.int .i64 ((arr v place).lo), .int .i64 ((arr v place).lo)]) :: (160, .agg #[.int .i64 ((arr v place).lo), .int .i64 ((arr v place).lo)]) :: Lr) _
    refine t_neS (xs := [.int .i64 ((arr v place).lo), .int .i64 ((arr v place).lo)]) (ys := [.int .i64 ((arr v place).lo), .int .i64 ((arr v place).lo)]) (by kernel_rfl) (eqIn45 9998 ((arr v place).lo) ((arr v place).lo) ((arr v place).lo) ((arr v place).lo)) rfl rfl rfl rfl (t_samehd (v := .bool false) (by simp) ?_)
    exact dz rfl hW
   · exact fun D ρ w _ _ _ hW => ⟨[(156, .bool false), (161, .bool false)], ⟨fi 10 rfl rfl rfl, fi 15 rfl rfl rfl, trivial⟩, fun Lr => t_pick_f rfl rfl rfl rfl (dz rfl hW)⟩
   · exact fun D ρ w _ _ _ hW => ⟨[(162, .bool false)], ⟨fi 16 rfl rfl rfl, trivial⟩, fun Lr => t_move rfl rfl rfl (dz rfl hW)⟩
   ·
    intro D ρ w582 hcD hnD hdD hW
    have zhW := hW.size
    refine ⟨[(18, .pointer (some ⟨bk524, 0, none⟩)), (163, .bool false)], ⟨fo rfl rfl, fi 17 rfl rfl rfl, trivial⟩, fun Lr => ?_⟩
    show WL _ _ _ _ _ _ _ ((18, .pointer (some ⟨bk524, 0, none⟩)) :: (163, .bool false) :: Lr) _
    have B585 := (B537.keep hW (fun h => h))
    refine t_loadN (vs := [.int .i64 ((arr v place).hi), .int .i64 ((arr v place).hi)]) Try.isAgg45 Try.sizeOf45 rfl rfl rfl (B585.at.sub 0 2) rfl ?_
    exact dz rfl hW
   · exact fun D ρ w _ _ _ hW => ⟨[(10, .pointer (some ⟨bk77, 0, none⟩)), (163, .bool false)], ⟨fo rfl rfl, fi 17 rfl rfl rfl, trivial⟩, fun Lr => t_field Try.underlying45 rfl Try.sizeOf3 (1) rfl rfl rfl rfl (dz rfl hW)⟩
   ·
    intro D ρ w586 hcD hnD hdD hW
    have zhW := hW.size
    refine ⟨[(163, .bool false), (165, .pointer (some ⟨bk77, 1, none⟩))], ⟨fi 17 rfl rfl rfl, fi 19 rfl rfl rfl, trivial⟩, fun Lr => ?_⟩
    show WL _ _ _ _ _ _ _ ((163, .bool false) :: (165, .pointer (some ⟨bk77, 1, none⟩)) :: Lr) _
    have B589 := (B539.keep hW (fun h => h))
    refine t_load Try.isAgg3 rfl rfl rfl (B589.get rfl) ?_
    exact dz rfl hW
   ·
    intro D ρ w590 hcD hnD hdD hW
    have zhW := hW.size
    refine ⟨[(163, .bool false), (166, .int .i64 ((arr v place).hi))], ⟨fi 17 rfl rfl rfl, fi 20 rfl rfl rfl, trivial⟩, fun Lr => ?_⟩
    show WL _ _ _ _ _ _ _ ((163, .bool false) :: (166, .int .i64 ((arr v place).hi)) :: Lr) _
    refine t_call (vs := [.int .i64 ((arr v place).hi)]) own36 rfl rfl rfl rfl (exact_c ((arr v place).hi) _) (fun v593 w594 r596 => ?_)
    obtain ⟨rfl, u595⟩ := r596
    have zu595 := u595.size
    exact dz rfl (hW.next u595 (fun _ _ h => h.elim))
   ·
    intro D ρ w598 hcD hnD hdD hW
    have zhW := hW.size
    refine ⟨[(163, .bool false), (164, .agg #[.int .i64 ((arr v place).hi), .int .i64 ((arr v place).hi)]), (167, .agg #[.int .i64 ((arr v place).hi), .int .i64 ((arr v place).hi)])], ⟨fi 17 rfl rfl rfl, fi 18 rfl rfl rfl, fi 21 rfl rfl rfl, trivial⟩, fun Lr => ?_⟩
    show WL _ _ _ _ _ _ _ ((163, .bool false) :: (164, .agg #[.int .i64 ((arr v place).hi), .int .i64 ((arr v place).hi)]) :: (167, .agg #[.int .i64 ((arr v place).hi), .int .i64 ((arr v place).hi)]) :: Lr) _
    refine t_neS (xs := [.int .i64 ((arr v place).hi), .int .i64 ((arr v place).hi)]) (ys := [.int .i64 ((arr v place).hi), .int .i64 ((arr v place).hi)]) (by kernel_rfl) (eqIn45 9998 ((arr v place).hi) ((arr v place).hi) ((arr v place).hi) ((arr v place).hi)) rfl rfl rfl rfl (t_samehd (v := .bool false) (by simp) ?_)
    exact dz rfl hW
   · exact fun D ρ w _ _ _ hW => ⟨[(163, .bool false), (168, .bool false)], ⟨fi 17 rfl rfl rfl, fi 22 rfl rfl rfl, trivial⟩, fun Lr => t_pick_f rfl rfl rfl rfl (dz rfl hW)⟩
   · exact fun D ρ w _ _ _ hW => ⟨[(169, .bool false)], ⟨fi 23 rfl rfl rfl, trivial⟩, fun Lr => t_move rfl rfl rfl (dz rfl hW)⟩
   · exact fun D ρ w _ _ _ hW => ⟨[(10, .pointer (some ⟨bk77, 0, none⟩)), (170, .bool false)], ⟨fo rfl rfl, fi 24 rfl rfl rfl, trivial⟩, fun Lr => t_field Try.underlying45 rfl Try.sizeOf3 (0) rfl rfl rfl rfl (dz rfl hW)⟩
   ·
    intro D ρ w601 hcD hnD hdD hW
    have zhW := hW.size
    refine ⟨[(170, .bool false), (171, .pointer (some ⟨bk77, 0, none⟩))], ⟨fi 24 rfl rfl rfl, fi 25 rfl rfl rfl, trivial⟩, fun Lr => ?_⟩
    show WL _ _ _ _ _ _ _ ((170, .bool false) :: (171, .pointer (some ⟨bk77, 0, none⟩)) :: Lr) _
    have B604 := (B539.keep hW (fun h => h))
    refine t_load Try.isAgg3 rfl rfl rfl (B604.get rfl) ?_
    exact dz rfl hW
   · exact fun D ρ w _ _ _ hW => ⟨[(10, .pointer (some ⟨bk77, 0, none⟩)), (170, .bool false)], ⟨fo rfl rfl, fi 24 rfl rfl rfl, trivial⟩, fun Lr => t_field Try.underlying45 rfl Try.sizeOf3 (1) rfl rfl rfl rfl (dz rfl hW)⟩
   ·
    intro D ρ w605 hcD hnD hdD hW
    have zhW := hW.size
    refine ⟨[(170, .bool false), (173, .pointer (some ⟨bk77, 1, none⟩))], ⟨fi 24 rfl rfl rfl, fi 27 rfl rfl rfl, trivial⟩, fun Lr => ?_⟩
    show WL _ _ _ _ _ _ _ ((170, .bool false) :: (173, .pointer (some ⟨bk77, 1, none⟩)) :: Lr) _
    have B608 := (B539.keep hW (fun h => h))
    refine t_load Try.isAgg3 rfl rfl rfl (B608.get rfl) ?_
    exact dz rfl hW
   · exact fun D ρ w _ _ _ hW => ⟨[(170, .bool false), (172, .int .i64 ((arr v place).lo)), (174, .int .i64 ((arr v place).hi))], ⟨fi 24 rfl rfl rfl, fi 26 rfl rfl rfl, fi 28 rfl rfl rfl, trivial⟩, fun Lr => t_cmp rfl rfl rfl rfl rfl (t_samehd (v := .bool false) (by first | exact congrArg Value.bool (decide_eq_false g9175) | exact congrArg Value.bool g9175 | simp [g9175]) (dz rfl hW))⟩
   · exact fun D ρ w _ _ _ hW => ⟨[(170, .bool false), (175, .bool false)], ⟨fi 24 rfl rfl rfl, fi 29 rfl rfl rfl, trivial⟩, fun Lr => t_pick_f rfl rfl rfl rfl (dz rfl hW)⟩
   · exact fun D ρ w _ _ _ hW => ⟨[(176, .bool false)], ⟨fi 30 rfl rfl rfl, trivial⟩, fun Lr => t_move rfl rfl rfl (dz rfl hW)⟩
   · exact fun D ρ w _ _ _ hW => ⟨[(10, .pointer (some ⟨bk77, 0, none⟩)), (177, .bool false)], ⟨fo rfl rfl, fi 31 rfl rfl rfl, trivial⟩, fun Lr => t_field Try.underlying45 rfl Try.sizeOf3 (0) rfl rfl rfl rfl (dz rfl hW)⟩
   ·
    intro D ρ w609 hcD hnD hdD hW
    have zhW := hW.size
    refine ⟨[(177, .bool false), (178, .pointer (some ⟨bk77, 0, none⟩))], ⟨fi 31 rfl rfl rfl, fi 32 rfl rfl rfl, trivial⟩, fun Lr => ?_⟩
    show WL _ _ _ _ _ _ _ ((177, .bool false) :: (178, .pointer (some ⟨bk77, 0, none⟩)) :: Lr) _
    have B612 := (B539.keep hW (fun h => h))
    refine t_load Try.isAgg3 rfl rfl rfl (B612.get rfl) ?_
    exact dz rfl hW
   · exact fun D ρ w _ _ _ hW => ⟨[(2, .pointer (some ⟨bk2, 0, none⟩)), (177, .bool false)], ⟨fo rfl rfl, fi 31 rfl rfl rfl, trivial⟩, fun Lr => t_field Try.underlying48 rfl Try.sizeOf45 (0) rfl rfl rfl rfl (dz rfl hW)⟩
   · exact fun D ρ w _ _ _ hW => ⟨[(177, .bool false), (180, .pointer (some ⟨bk2, 0, none⟩))], ⟨fi 31 rfl rfl rfl, fi 34 rfl rfl rfl, trivial⟩, fun Lr => t_field Try.underlying45 rfl Try.sizeOf3 (0) rfl rfl rfl rfl (dz rfl hW)⟩
   ·
    intro D ρ w613 hcD hnD hdD hW
    have zhW := hW.size
    refine ⟨[(177, .bool false), (181, .pointer (some ⟨bk2, 0, none⟩))], ⟨fi 31 rfl rfl rfl, fi 35 rfl rfl rfl, trivial⟩, fun Lr => ?_⟩
    show WL _ _ _ _ _ _ _ ((177, .bool false) :: (181, .pointer (some ⟨bk2, 0, none⟩)) :: Lr) _
    have B616 := (B538.keep hW (fun h => h))
    refine t_load Try.isAgg3 rfl rfl rfl (B616.get rfl) ?_
    exact dz rfl hW
   · exact fun D ρ w _ _ _ hW => ⟨[(177, .bool false), (179, .int .i64 ((arr v place).lo)), (182, .int .i64 v.st.lo)], ⟨fi 31 rfl rfl rfl, fi 33 rfl rfl rfl, fi 36 rfl rfl rfl, trivial⟩, fun Lr => t_cmp rfl rfl rfl rfl rfl (t_samehd (v := .bool false) (by first | exact congrArg Value.bool (decide_eq_false g9183) | exact congrArg Value.bool g9183 | simp [g9183]) (dz rfl hW))⟩
   · exact fun D ρ w _ _ _ hW => ⟨[(177, .bool false), (183, .bool false)], ⟨fi 31 rfl rfl rfl, fi 37 rfl rfl rfl, trivial⟩, fun Lr => t_pick_f rfl rfl rfl rfl (dz rfl hW)⟩
   intro ρ w617 hW
   have u618 : Upd (fun _ => False) w529 w617 := hW
   have zu618 := u618.size
   have E619 := E532.next u618 (fun _ _ h => h.elim)
   refine QK.weak [(2, .pointer (some ⟨bk2, 0, none⟩)), (4, .bool false), (5, .int .i64 (frst v)), (6, .int .i64 (lst v)), (8, .int .i64 s), (9, .int .i64 place), (10, .pointer (some ⟨bk77, 0, none⟩)), (11, .int .i64 0), (17, .int .i64 0), (184, .bool false)] ⟨rfl, rfl, rfl, rfl, rfl, rfl, rfl, rfl, rfl, rfl, trivial⟩ (hK534 _ _ (c_cond_f rfl (c_skip (hK533 _ _ (c_seq fun K620 hK620 => (c_seq fun K621 hK621 => (c_region (t_move rfl rfl rfl (t_move rfl rfl rfl (t_cmp rfl rfl rfl rfl rfl (t_nil' (hK621 _ _ (c_condp rfl (fun g187 => ?_) (fun g187 => ?_))))))))))))))
   ·
    refine c_seq fun K622 hK622 => (c_region ?_)
    have B623 := (B538.keep u618 (fun h => h))
    refine t_loadN (vs := [.int .i64 v.st.lo, .int .i64 v.st.hi, .slice ao ((v.runs).length) cap, .int .i64 v.len, .int .i64 v.wid]) Try.isAgg48 Try.sizeOf48 rfl rfl rfl (B623.at.sub 0 5) rfl (t_call (vs := [.agg #[.int .i64 v.st.lo, .int .i64 v.st.hi, .slice ao ((v.runs).length) cap, .int .i64 v.len, .int .i64 v.wid]]) own28 rfl rfl rfl rfl (copied_c v ao b o cap _ (hs.keep E619 (fun _ h => h)) (by omega)) (fun v625 w626 r628 => ?_))
    obtain ⟨⟨aoC624, bC624, cpC624, rfl, hC624, gebC624⟩, u627⟩ := r628
    have zu627 := u627.size
    have E629 := E619.next u627 (fun _ _ h => h.elim)
    refine t_move rfl rfl rfl (t_move rfl rfl rfl (t_ari rfl rfl rfl rfl rfl (by omega) (t_call (vs := [.agg #[.int .i64 v.st.lo, .int .i64 v.st.hi, .slice aoC624 ((v.runs).length) cpC624, .int .i64 v.len, .int .i64 v.wid], .int .i64 (place + s)]) own30 rfl rfl rfl rfl (Arrive_c v aoC624 bC624 0 cpC624 (place + s) _ hC624 (by omega)) (fun v630 w631 r633 => ?_))))
    obtain ⟨rfl, u632⟩ := r633
    have zu632 := u632.size
    have E634 := E629.next u632 (fun _ _ h => h.elim)
    refine t_move rfl rfl rfl (t_extract (vs := [.agg #[.int .i64 ((ArrB v (place + s)).lo), .int .i64 ((ArrB v (place + s)).hi)], .int .i64 (ArrE v (place + s))]) rfl rfl rfl rfl (t_extract (vs := [.agg #[.int .i64 ((ArrB v (place + s)).lo), .int .i64 ((ArrB v (place + s)).hi)], .int .i64 (ArrE v (place + s))]) rfl rfl rfl rfl (t_alloc (cs := [.int .i64 0, .int .i64 0]) Try.zeroValue45 rfl rfl rfl (fun bk635 w636 ebk635 sbk635 B637 u638 => ?_))))
    have zu638 := u638.size
    have E639 := E634.next u638 (fun _ _ h => h.elim)
    refine t_store (vs := [.int .i64 ((ArrB v (place + s)).lo), .int .i64 ((ArrB v (place + s)).hi)]) Try.sizeOf45 rfl rfl rfl B637 rfl rfl (Nat.le_of_ble_eq_true rfl) (by simp [Value.oneCell']) (fun w640 sw640 B642 u641 => ?_)
    have zu641 := u641.size
    have E643 := E639.next u641 (fun i hi (h : i = bk635) => show False by first | omega | assumption)
    have B642 : Blk w640 bk635 45 [.int .i64 ((ArrB v (place + s)).lo), .int .i64 ((ArrB v (place + s)).hi)] := B642
    refine t_assign rfl rfl rfl (t_nil' (hK622 _ _ (c_seq fun K644 hK644 => (c_region ?_))))
    have hon2 : onWay v [place + s] = true := onWay_of (by omega)
    have hA2 := ArrE_on hk hon2
    have hlat := arr_later hk hon hon2 (by omega)
    refine t_same 21 (v := .int .i64 0) rfl (congrArg (Value.int .i64) hA2.1) ?_
    have B645 : Blk w640 bk635 45 [.int .i64 ((arr v (place + s)).lo), .int .i64 ((arr v (place + s)).hi)] := by
     have e : ([.int .i64 ((ArrB v (place + s)).lo), .int .i64 ((ArrB v (place + s)).hi)] : List Value) = [.int .i64 ((arr v (place + s)).lo), .int .i64 ((arr v (place + s)).hi)] := by rw [hA2.2]
     rw [← e]; exact B642
    refine t_move rfl rfl rfl (t_cmp rfl rfl rfl rfl rfl (t_samehd (v := .bool false) rfl (t_move rfl rfl rfl (t_field Try.underlying45 rfl Try.sizeOf3 (0) rfl rfl rfl rfl (t_load Try.isAgg3 rfl rfl rfl (B645.get rfl) (t_field Try.underlying45 rfl Try.sizeOf3 (0) rfl rfl rfl rfl ?_))))))
    have B646 := (((((B539.keep u618 (fun h => h)).keep u627 (fun h => h)).keep u632 (fun h => h)).keep u638 (fun h => h)).keep u641 (show ¬ (bk77 = bk635) by first | omega | assumption))
    refine t_load Try.isAgg3 rfl rfl rfl (B646.get rfl) (t_cmp rfl rfl rfl rfl rfl (t_same 204 (v := .bool false) rfl (congrArg Value.bool (decide_eq_false (by omega))) (t_pick_f rfl rfl rfl rfl (t_move rfl rfl rfl (t_field Try.underlying45 rfl Try.sizeOf3 (1) rfl rfl rfl rfl (t_load Try.isAgg3 rfl rfl rfl (B645.get rfl) (t_field Try.underlying45 rfl Try.sizeOf3 (1) rfl rfl rfl rfl (t_load Try.isAgg3 rfl rfl rfl (B646.get rfl) (t_cmp rfl rfl rfl rfl rfl (t_same 211 (v := .bool false) rfl (congrArg Value.bool (decide_eq_false (by omega))) (t_pick_f rfl rfl rfl rfl (t_nil' (hK644 _ _ (c_cond_f rfl (c_skip (hK620 _ _ (c_seq fun K647 hK647 => (c_region ?_))))))))))))))))))
    have B648 := ((((B623.keep u627 (fun h => h)).keep u632 (fun h => h)).keep u638 (fun h => h)).keep u641 (show ¬ (bk2 = bk635) by first | omega | assumption))
    refine t_loadN (vs := [.int .i64 v.st.lo, .int .i64 v.st.hi, .slice ao ((v.runs).length) cap, .int .i64 v.len, .int .i64 v.wid]) Try.isAgg48 Try.sizeOf48 rfl rfl rfl (B648.at.sub 0 5) rfl (t_call (vs := [.agg #[.int .i64 v.st.lo, .int .i64 v.st.hi, .slice ao ((v.runs).length) cap, .int .i64 v.len, .int .i64 v.wid]]) own28 rfl rfl rfl rfl (copied_c v ao b o cap _ (hs.keep E643 (fun _ h => h)) (by omega)) (fun v650 w651 r653 => ?_))
    obtain ⟨⟨aoC649, bC649, cpC649, rfl, hC649, gebC649⟩, u652⟩ := r653
    have zu652 := u652.size
    have E654 := E643.next u652 (fun _ _ h => h.elim)
    refine t_move rfl rfl rfl (t_move rfl rfl rfl (t_ari rfl rfl rfl rfl rfl (by omega) (t_call (vs := [.agg #[.int .i64 v.st.lo, .int .i64 v.st.hi, .slice aoC649 ((v.runs).length) cpC649, .int .i64 v.len, .int .i64 v.wid], .int .i64 ((frst v) - s)]) own30 rfl rfl rfl rfl (Arrive_c v aoC649 bC649 0 cpC649 ((frst v) - s) _ hC649 (by omega)) (fun v655 w656 r658 => ?_))))
    obtain ⟨rfl, u657⟩ := r658
    have zu657 := u657.size
    have E659 := E654.next u657 (fun _ _ h => h.elim)
    refine t_move rfl rfl rfl (t_extract (vs := [.agg #[.int .i64 ((ArrB v ((frst v) - s)).lo), .int .i64 ((ArrB v ((frst v) - s)).hi)], .int .i64 (ArrE v ((frst v) - s))]) rfl rfl rfl rfl (t_extract (vs := [.agg #[.int .i64 ((ArrB v ((frst v) - s)).lo), .int .i64 ((ArrB v ((frst v) - s)).hi)], .int .i64 (ArrE v ((frst v) - s))]) rfl rfl rfl rfl (t_alloc (cs := [.int .i64 0, .int .i64 0]) Try.zeroValue45 rfl rfl rfl (fun bk660 w661 ebk660 sbk660 B662 u663 => ?_))))
    have zu663 := u663.size
    have E664 := E659.next u663 (fun _ _ h => h.elim)
    refine t_store (vs := [.int .i64 ((ArrB v ((frst v) - s)).lo), .int .i64 ((ArrB v ((frst v) - s)).hi)]) Try.sizeOf45 rfl rfl rfl B662 rfl rfl (Nat.le_of_ble_eq_true rfl) (by simp [Value.oneCell']) (fun w665 sw665 B667 u666 => ?_)
    have zu666 := u666.size
    have E668 := E664.next u666 (fun i hi (h : i = bk660) => show False by first | omega | assumption)
    have B667 : Blk w665 bk660 45 [.int .i64 ((ArrB v ((frst v) - s)).lo), .int .i64 ((ArrB v ((frst v) - s)).hi)] := B667
    refine t_assign rfl rfl rfl (t_nil' (hK647 _ _ (c_seq fun K669 hK669 => (c_region ?_))))
    have B670 := ((((B648.keep u652 (fun h => h)).keep u657 (fun h => h)).keep u663 (fun h => h)).keep u666 (show ¬ (bk2 = bk660) by first | omega | assumption))
    refine t_loadN (vs := [.int .i64 v.st.lo, .int .i64 v.st.hi, .slice ao ((v.runs).length) cap, .int .i64 v.len, .int .i64 v.wid]) Try.isAgg48 Try.sizeOf48 rfl rfl rfl (B670.at.sub 0 5) rfl (t_call (vs := [.agg #[.int .i64 v.st.lo, .int .i64 v.st.hi, .slice ao ((v.runs).length) cap, .int .i64 v.len, .int .i64 v.wid]]) own28 rfl rfl rfl rfl (copied_c v ao b o cap _ (hs.keep E668 (fun _ h => h)) (by omega)) (fun v672 w673 r675 => ?_))
    obtain ⟨⟨aoC671, bC671, cpC671, rfl, hC671, gebC671⟩, u674⟩ := r675
    have zu674 := u674.size
    have E676 := E668.next u674 (fun _ _ h => h.elim)
    refine t_move rfl rfl rfl (t_move rfl rfl rfl (t_ari rfl rfl rfl rfl rfl (by omega) (t_call (vs := [.agg #[.int .i64 v.st.lo, .int .i64 v.st.hi, .slice aoC671 ((v.runs).length) cpC671, .int .i64 v.len, .int .i64 v.wid], .int .i64 ((lst v) + s)]) own30 rfl rfl rfl rfl (Arrive_c v aoC671 bC671 0 cpC671 ((lst v) + s) _ hC671 (by omega)) (fun v677 w678 r680 => ?_))))
    obtain ⟨rfl, u679⟩ := r680
    have zu679 := u679.size
    have E681 := E676.next u679 (fun _ _ h => h.elim)
    refine t_move rfl rfl rfl (t_extract (vs := [.agg #[.int .i64 ((ArrB v ((lst v) + s)).lo), .int .i64 ((ArrB v ((lst v) + s)).hi)], .int .i64 (ArrE v ((lst v) + s))]) rfl rfl rfl rfl (t_extract (vs := [.agg #[.int .i64 ((ArrB v ((lst v) + s)).lo), .int .i64 ((ArrB v ((lst v) + s)).hi)], .int .i64 (ArrE v ((lst v) + s))]) rfl rfl rfl rfl (t_alloc (cs := [.int .i64 0, .int .i64 0]) Try.zeroValue45 rfl rfl rfl (fun bk682 w683 ebk682 sbk682 B684 u685 => ?_))))
    have zu685 := u685.size
    have E686 := E681.next u685 (fun _ _ h => h.elim)
    refine t_store (vs := [.int .i64 ((ArrB v ((lst v) + s)).lo), .int .i64 ((ArrB v ((lst v) + s)).hi)]) Try.sizeOf45 rfl rfl rfl B684 rfl rfl (Nat.le_of_ble_eq_true rfl) (by simp [Value.oneCell']) (fun w687 sw687 B689 u688 => ?_)
    have zu688 := u688.size
    have E690 := E686.next u688 (fun i hi (h : i = bk682) => show False by first | omega | assumption)
    have B689 : Blk w687 bk682 45 [.int .i64 ((ArrB v ((lst v) + s)).lo), .int .i64 ((ArrB v ((lst v) + s)).hi)] := B689
    refine t_assign rfl rfl rfl (t_nil' (hK669 _ _ (c_seq fun K691 hK691 => (c_region ?_))))
    have hA3 := ArrE_off hk (onWay_not (v := v) (p := frst v - s) (by omega))
    have hA4 := ArrE_off hk (onWay_not (v := v) (p := lst v + s) (by omega))
    refine t_same 11 (v := .int .i64 7) rfl (congrArg (Value.int .i64) hA3.1) ?_
    have B692 := ((((B667.keep u674 (fun h => h)).keep u679 (fun h => h)).keep u685 (fun h => h)).keep u688 (show ¬ (bk660 = bk682) by first | omega | assumption))
    have B693 : Blk w687 bk660 45 [.int .i64 0, .int .i64 0] := by
     have e : ([.int .i64 ((ArrB v ((frst v) - s)).lo), .int .i64 ((ArrB v ((frst v) - s)).hi)] : List Value) = [.int .i64 0, .int .i64 0] := by rw [hA3.2]
     rw [← e]; exact B692
    refine t_same 17 (v := .int .i64 7) rfl (congrArg (Value.int .i64) hA4.1) ?_
    have B694 : Blk w687 bk682 45 [.int .i64 0, .int .i64 0] := by
     have e : ([.int .i64 ((ArrB v ((lst v) + s)).lo), .int .i64 ((ArrB v ((lst v) + s)).hi)] : List Value) = [.int .i64 0, .int .i64 0] := by rw [hA4.2]
     rw [← e]; exact B689
    refine t_move rfl rfl rfl (t_cmp rfl rfl rfl rfl rfl (t_samehd (v := .bool true) rfl (t_move rfl rfl rfl (t_move rfl rfl rfl (t_move rfl rfl rfl (t_cmp rfl rfl rfl rfl rfl (t_samehd (v := .bool true) rfl (t_pick_t rfl rfl rfl rfl (t_move rfl rfl rfl (t_loadN (vs := [.int .i64 0, .int .i64 0]) Try.isAgg45 Try.sizeOf45 rfl rfl rfl (B693.at.sub 0 2) rfl (t_build (ps := []) (v := .agg #[.int .i64 0, .int .i64 0]) rfl rfl ⟨rfl, rfl⟩ (fun w => by kernel_rfl) (t_eqS (xs := [.int .i64 0, .int .i64 0]) (ys := [.int .i64 0, .int .i64 0]) (by kernel_rfl) (eqIn45 9998 0 0 0 0) rfl rfl rfl rfl (t_samehd (v := .bool true) rfl (t_pick_t rfl rfl rfl rfl (t_move rfl rfl rfl (t_loadN (vs := [.int .i64 0, .int .i64 0]) Try.isAgg45 Try.sizeOf45 rfl rfl rfl (B694.at.sub 0 2) rfl (t_loadN (vs := [.int .i64 0, .int .i64 0]) Try.isAgg45 Try.sizeOf45 rfl rfl rfl (B693.at.sub 0 2) rfl (t_eqS (xs := [.int .i64 0, .int .i64 0]) (ys := [.int .i64 0, .int .i64 0]) (by kernel_rfl) (eqIn45 9998 0 0 0 0) rfl rfl rfl rfl (t_samehd (v := .bool true) rfl (t_pick_t rfl rfl rfl rfl (t_move rfl rfl rfl (t_call (vs := []) own16 rfl rfl rfl rfl (known_c _) (fun v695 w696 r698 => ?_)))))))))))))))))))))))
    obtain ⟨rfl, u697⟩ := r698
    have zu697 := u697.size
    have E699 := E690.next u697 (fun _ _ h => h.elim)
    refine t_pick_t rfl rfl rfl rfl (t_assign rfl rfl rfl (t_nil' (hK691 _ _ (c_ret (f_ret1 (v := .bool true) Try.results6 rfl ?_)))))
    exact ⟨rfl, E699⟩
   ·
    refine c_skip (hK620 _ _ (c_seq fun K700 hK700 => (c_region ?_)))
    have B701 := (B538.keep u618 (fun h => h))
    refine t_loadN (vs := [.int .i64 v.st.lo, .int .i64 v.st.hi, .slice ao ((v.runs).length) cap, .int .i64 v.len, .int .i64 v.wid]) Try.isAgg48 Try.sizeOf48 rfl rfl rfl (B701.at.sub 0 5) rfl (t_call (vs := [.agg #[.int .i64 v.st.lo, .int .i64 v.st.hi, .slice ao ((v.runs).length) cap, .int .i64 v.len, .int .i64 v.wid]]) own28 rfl rfl rfl rfl (copied_c v ao b o cap _ (hs.keep E619 (fun _ h => h)) (by omega)) (fun v703 w704 r706 => ?_))
    obtain ⟨⟨aoC702, bC702, cpC702, rfl, hC702, gebC702⟩, u705⟩ := r706
    have zu705 := u705.size
    have E707 := E619.next u705 (fun _ _ h => h.elim)
    refine t_move rfl rfl rfl (t_move rfl rfl rfl (t_ari rfl rfl rfl rfl rfl (by omega) (t_call (vs := [.agg #[.int .i64 v.st.lo, .int .i64 v.st.hi, .slice aoC702 ((v.runs).length) cpC702, .int .i64 v.len, .int .i64 v.wid], .int .i64 ((frst v) - s)]) own30 rfl rfl rfl rfl (Arrive_c v aoC702 bC702 0 cpC702 ((frst v) - s) _ hC702 (by omega)) (fun v708 w709 r711 => ?_))))
    obtain ⟨rfl, u710⟩ := r711
    have zu710 := u710.size
    have E712 := E707.next u710 (fun _ _ h => h.elim)
    refine t_move rfl rfl rfl (t_extract (vs := [.agg #[.int .i64 ((ArrB v ((frst v) - s)).lo), .int .i64 ((ArrB v ((frst v) - s)).hi)], .int .i64 (ArrE v ((frst v) - s))]) rfl rfl rfl rfl (t_extract (vs := [.agg #[.int .i64 ((ArrB v ((frst v) - s)).lo), .int .i64 ((ArrB v ((frst v) - s)).hi)], .int .i64 (ArrE v ((frst v) - s))]) rfl rfl rfl rfl (t_alloc (cs := [.int .i64 0, .int .i64 0]) Try.zeroValue45 rfl rfl rfl (fun bk713 w714 ebk713 sbk713 B715 u716 => ?_))))
    have zu716 := u716.size
    have E717 := E712.next u716 (fun _ _ h => h.elim)
    refine t_store (vs := [.int .i64 ((ArrB v ((frst v) - s)).lo), .int .i64 ((ArrB v ((frst v) - s)).hi)]) Try.sizeOf45 rfl rfl rfl B715 rfl rfl (Nat.le_of_ble_eq_true rfl) (by simp [Value.oneCell']) (fun w718 sw718 B720 u719 => ?_)
    have zu719 := u719.size
    have E721 := E717.next u719 (fun i hi (h : i = bk713) => show False by first | omega | assumption)
    have B720 : Blk w718 bk713 45 [.int .i64 ((ArrB v ((frst v) - s)).lo), .int .i64 ((ArrB v ((frst v) - s)).hi)] := B720
    refine t_assign rfl rfl rfl (t_nil' (hK700 _ _ (c_seq fun K722 hK722 => (c_region ?_))))
    have B723 := ((((B701.keep u705 (fun h => h)).keep u710 (fun h => h)).keep u716 (fun h => h)).keep u719 (show ¬ (bk2 = bk713) by first | omega | assumption))
    refine t_loadN (vs := [.int .i64 v.st.lo, .int .i64 v.st.hi, .slice ao ((v.runs).length) cap, .int .i64 v.len, .int .i64 v.wid]) Try.isAgg48 Try.sizeOf48 rfl rfl rfl (B723.at.sub 0 5) rfl (t_call (vs := [.agg #[.int .i64 v.st.lo, .int .i64 v.st.hi, .slice ao ((v.runs).length) cap, .int .i64 v.len, .int .i64 v.wid]]) own28 rfl rfl rfl rfl (copied_c v ao b o cap _ (hs.keep E721 (fun _ h => h)) (by omega)) (fun v725 w726 r728 => ?_))
    obtain ⟨⟨aoC724, bC724, cpC724, rfl, hC724, gebC724⟩, u727⟩ := r728
    have zu727 := u727.size
    have E729 := E721.next u727 (fun _ _ h => h.elim)
    refine t_move rfl rfl rfl (t_move rfl rfl rfl (t_ari rfl rfl rfl rfl rfl (by omega) (t_call (vs := [.agg #[.int .i64 v.st.lo, .int .i64 v.st.hi, .slice aoC724 ((v.runs).length) cpC724, .int .i64 v.len, .int .i64 v.wid], .int .i64 ((lst v) + s)]) own30 rfl rfl rfl rfl (Arrive_c v aoC724 bC724 0 cpC724 ((lst v) + s) _ hC724 (by omega)) (fun v730 w731 r733 => ?_))))
    obtain ⟨rfl, u732⟩ := r733
    have zu732 := u732.size
    have E734 := E729.next u732 (fun _ _ h => h.elim)
    refine t_move rfl rfl rfl (t_extract (vs := [.agg #[.int .i64 ((ArrB v ((lst v) + s)).lo), .int .i64 ((ArrB v ((lst v) + s)).hi)], .int .i64 (ArrE v ((lst v) + s))]) rfl rfl rfl rfl (t_extract (vs := [.agg #[.int .i64 ((ArrB v ((lst v) + s)).lo), .int .i64 ((ArrB v ((lst v) + s)).hi)], .int .i64 (ArrE v ((lst v) + s))]) rfl rfl rfl rfl (t_alloc (cs := [.int .i64 0, .int .i64 0]) Try.zeroValue45 rfl rfl rfl (fun bk735 w736 ebk735 sbk735 B737 u738 => ?_))))
    have zu738 := u738.size
    have E739 := E734.next u738 (fun _ _ h => h.elim)
    refine t_store (vs := [.int .i64 ((ArrB v ((lst v) + s)).lo), .int .i64 ((ArrB v ((lst v) + s)).hi)]) Try.sizeOf45 rfl rfl rfl B737 rfl rfl (Nat.le_of_ble_eq_true rfl) (by simp [Value.oneCell']) (fun w740 sw740 B742 u741 => ?_)
    have zu741 := u741.size
    have E743 := E739.next u741 (fun i hi (h : i = bk735) => show False by first | omega | assumption)
    have B742 : Blk w740 bk735 45 [.int .i64 ((ArrB v ((lst v) + s)).lo), .int .i64 ((ArrB v ((lst v) + s)).hi)] := B742
    refine t_assign rfl rfl rfl (t_nil' (hK722 _ _ (c_seq fun K744 hK744 => (c_region ?_))))
    have hA3 := ArrE_off hk (onWay_not (v := v) (p := frst v - s) (by omega))
    have hA4 := ArrE_off hk (onWay_not (v := v) (p := lst v + s) (by omega))
    refine t_same 11 (v := .int .i64 7) rfl (congrArg (Value.int .i64) hA3.1) ?_
    have B745 := ((((B720.keep u727 (fun h => h)).keep u732 (fun h => h)).keep u738 (fun h => h)).keep u741 (show ¬ (bk713 = bk735) by first | omega | assumption))
    have B746 : Blk w740 bk713 45 [.int .i64 0, .int .i64 0] := by
     have e : ([.int .i64 ((ArrB v ((frst v) - s)).lo), .int .i64 ((ArrB v ((frst v) - s)).hi)] : List Value) = [.int .i64 0, .int .i64 0] := by rw [hA3.2]
     rw [← e]; exact B745
    refine t_same 17 (v := .int .i64 7) rfl (congrArg (Value.int .i64) hA4.1) ?_
    have B747 : Blk w740 bk735 45 [.int .i64 0, .int .i64 0] := by
     have e : ([.int .i64 ((ArrB v ((lst v) + s)).lo), .int .i64 ((ArrB v ((lst v) + s)).hi)] : List Value) = [.int .i64 0, .int .i64 0] := by rw [hA4.2]
     rw [← e]; exact B742
    refine t_move rfl rfl rfl (t_cmp rfl rfl rfl rfl rfl (t_samehd (v := .bool true) rfl (t_move rfl rfl rfl (t_move rfl rfl rfl (t_move rfl rfl rfl (t_cmp rfl rfl rfl rfl rfl (t_samehd (v := .bool true) rfl (t_pick_t rfl rfl rfl rfl (t_move rfl rfl rfl (t_loadN (vs := [.int .i64 0, .int .i64 0]) Try.isAgg45 Try.sizeOf45 rfl rfl rfl (B746.at.sub 0 2) rfl (t_build (ps := []) (v := .agg #[.int .i64 0, .int .i64 0]) rfl rfl ⟨rfl, rfl⟩ (fun w => by kernel_rfl) (t_eqS (xs := [.int .i64 0, .int .i64 0]) (ys := [.int .i64 0, .int .i64 0]) (by kernel_rfl) (eqIn45 9998 0 0 0 0) rfl rfl rfl rfl (t_samehd (v := .bool true) rfl (t_pick_t rfl rfl rfl rfl (t_move rfl rfl rfl (t_loadN (vs := [.int .i64 0, .int .i64 0]) Try.isAgg45 Try.sizeOf45 rfl rfl rfl (B747.at.sub 0 2) rfl (t_loadN (vs := [.int .i64 0, .int .i64 0]) Try.isAgg45 Try.sizeOf45 rfl rfl rfl (B746.at.sub 0 2) rfl (t_eqS (xs := [.int .i64 0, .int .i64 0]) (ys := [.int .i64 0, .int .i64 0]) (by kernel_rfl) (eqIn45 9998 0 0 0 0) rfl rfl rfl rfl (t_samehd (v := .bool true) rfl (t_pick_t rfl rfl rfl rfl (t_move rfl rfl rfl (t_call (vs := []) own16 rfl rfl rfl rfl (known_c _) (fun v748 w749 r751 => ?_)))))))))))))))))))))))
    obtain ⟨rfl, u750⟩ := r751
    have zu750 := u750.size
    have E752 := E743.next u750 (fun _ _ h => h.elim)
    refine t_pick_t rfl rfl rfl rfl (t_assign rfl rfl rfl (t_nil' (hK744 _ _ (c_ret (f_ret1 (v := .bool true) Try.results6 rfl ?_)))))
    exact ⟨rfl, E752⟩

end Go.Proofs.Ytmicjleiheoieaa
