/-
  Contracts of Through and Meet. Conditions: none.
-/
import Derived.Test.YtmicjleiheoieaaA3
namespace Go.Proofs.Ytmicjleiheoieaa
open Go Go.RowKit
def ThrE (v : Voy) (n : Nar) : Int := if okVoy v && okNar n then thrE v n else 2
def ThrS (v : Voy) (n : Nar) : Stay := if okVoy v && okNar n then thrS v n else ⟨⟨0, 0⟩, ⟨0, 0⟩, false⟩
/-- Meet: may, must, the error. -/
def MeetE (a b : Voy) (n : Nar) : Int := if okVoy a && okVoy b && okNar n then (if thrE a n = 0 then thrE b n else thrE a n) else 2
def MeetOk (a b : Voy) (n : Nar) : Bool := okVoy a && okVoy b && okNar n && decide (thrE a n = 0) && decide (thrE b n = 0)

theorem Through_c (v : Voy) (ao : Option Addr) (b o cap : Nat) (n : Nar) (w0 : World) (hs : Sl encRun 6 w0 ao b o v.runs) (hl : v.runs.length ≤ 1000000) :
    CallsV Try.prog 40 [.agg #[.int .i64 v.st.lo, .int .i64 v.st.hi, .slice ao ((v.runs).length) cap, .int .i64 v.len, .int .i64 v.wid], .agg #[.int .i64 n.frm, .int .i64 n.to, .int .i64 n.wid, .bool n.single]] w0 (fun x w' => x = .tuple #[.agg #[.int .i64 (ThrS v n).inn.lo, .int .i64 (ThrS v n).inn.hi], .agg #[.int .i64 (ThrS v n).out.lo, .int .i64 (ThrS v n).out.hi], .bool (ThrS v n).there, .int .i64 (ThrE v n)] ∧ Ext w0 w') := by
  have E0 := Upd.refl (fun _ => False) w0
  refine f_enter (N := 32) Try.func40 rfl rfl rfl ?_
  change WC _ _ _ _ _ _ [(0, .agg #[.int .i64 v.st.lo, .int .i64 v.st.hi, .slice ao ((v.runs).length) cap, .int .i64 v.len, .int .i64 v.wid]), (1, .agg #[.int .i64 n.frm, .int .i64 n.to, .int .i64 n.wid, .bool n.single])] _
  refine c_seq fun K1 hK1 => ?_
  refine c_region ?_
  refine t_box (cs := [.int .i64 v.st.lo, .int .i64 v.st.hi, .slice ao ((v.runs).length) cap, .int .i64 v.len, .int .i64 v.wid]) rfl rfl rfl rfl (fun bk2 w3 ebk2 sbk2 B4 u5 => ?_)
  have zu5 := u5.size
  have E6 := E0.next u5 (fun _ _ h => h.elim)
  refine t_box (cs := [.int .i64 n.frm, .int .i64 n.to, .int .i64 n.wid, .bool n.single]) rfl rfl rfl rfl (fun bk7 w8 ebk7 sbk7 B9 u10 => ?_)
  have zu10 := u10.size
  have E11 := E6.next u10 (fun _ _ h => h.elim)
  refine t_alloc (cs := [.int .i64 0, .int .i64 0]) Try.zeroValue45 rfl rfl rfl (fun bk12 w13 ebk12 sbk12 B14 u15 => ?_)
  have zu15 := u15.size
  have E16 := E11.next u15 (fun _ _ h => h.elim)
  refine t_alloc (cs := [.int .i64 0, .int .i64 0]) Try.zeroValue45 rfl rfl rfl (fun bk17 w18 ebk17 sbk17 B19 u20 => ?_)
  have zu20 := u20.size
  have E21 := E16.next u20 (fun _ _ h => h.elim)
  refine t_assign rfl rfl rfl ?_
  refine t_assign rfl rfl rfl ?_
  refine t_nil' ?_
  refine hK1 _ _ ?_
  refine c_seq fun K22 hK22 => ?_
  refine c_seq fun K23 hK23 => ?_
  refine c_region ?_
  have B24 := (((B4.keep u10 (fun h => h)).keep u15 (fun h => h)).keep u20 (fun h => h))
  refine t_loadN (vs := [.int .i64 v.st.lo, .int .i64 v.st.hi, .slice ao ((v.runs).length) cap, .int .i64 v.len, .int .i64 v.wid]) Try.isAgg48 Try.sizeOf48 rfl rfl rfl (B24.at.sub 0 5) rfl ?_
  refine t_call (vs := [.agg #[.int .i64 v.st.lo, .int .i64 v.st.hi, .slice ao ((v.runs).length) cap, .int .i64 v.len, .int .i64 v.wid]]) own29 rfl rfl rfl rfl (Check_c v ao b o cap _ (hs.keep E21 (fun _ h => h)) (by omega)) (fun v25 w26 r28 => ?_)
  obtain ⟨rfl, u27⟩ := r28
  have zu27 := u27.size
  have E29 := E21.next u27 (fun _ _ h => h.elim)
  refine t_cmp rfl rfl rfl rfl rfl ?_
  refine t_move rfl rfl rfl ?_
  refine t_splitp 12 rfl (fun g12 => ?_) (fun g12 => ?_)
  · -- .bool (decide ((chk v) ≠ 0))
    refine t_skip rfl rfl rfl ?_
    refine t_skip rfl rfl rfl ?_
    refine t_skip rfl rfl rfl ?_
    refine t_pick_t rfl rfl rfl rfl ?_
    refine t_nil' ?_
    refine hK23 _ _ ?_
    refine c_cond_t rfl ?_
    refine c_seq fun K30 hK30 => ?_
    have B33 := ((B14.keep u20 (fun h => h)).keep u27 (fun h => h))
    have B34 := (B19.keep u27 (fun h => h))
    refine WC.weak [(0, .agg #[.int .i64 v.st.lo, .int .i64 v.st.hi, .slice ao ((v.runs).length) cap, .int .i64 v.len, .int .i64 v.wid]), (1, .agg #[.int .i64 n.frm, .int .i64 n.to, .int .i64 n.wid, .bool n.single]), (2, .pointer (some ⟨bk2, 0, none⟩)), (3, .pointer (some ⟨bk7, 0, none⟩)), (4, .pointer (some ⟨bk12, 0, none⟩)), (5, .pointer (some ⟨bk17, 0, none⟩)), (6, .bool false), (7, .int .i64 0), (9, .agg #[.int .i64 v.st.lo, .int .i64 v.st.hi, .slice ao ((v.runs).length) cap, .int .i64 v.len, .int .i64 v.wid]), (10, .int .i64 (chk v)), (11, .bool (decide ((chk v) ≠ 0))), (12, .bool true), (16, .bool true)] ⟨rfl, rfl, rfl, rfl, rfl, rfl, rfl, rfl, rfl, rfl, rfl, rfl, rfl, trivial⟩ ?_
    refine c_drawn follows 6 [some (17, some (.agg #[.int .i64 0, .int .i64 0])), some (18, some (.agg #[.int .i64 0, .int .i64 0])), none, none, some (6, some (.bool false)), some (7, some (.int .i64 2))] [[], [], [0, 0], [1, 2, 0, 1, 2], [3, 0, 1, 2, 3], [4, 0, 1, 2, 3, 4]] (fun D _ w => Upd (fun i => i = bk12 ∨ i = bk17) w26 w ∧ Blk w bk12 45 [(bif D 2 then .int .i64 0 else .int .i64 0), (bif D 2 then .int .i64 0 else .int .i64 0)] ∧ Blk w bk17 45 [(bif D 3 then .int .i64 0 else .int .i64 0), (bif D 3 then .int .i64 0 else .int .i64 0)]) rfl rfl rfl (by kernel_rfl) (by kernel_rfl) ⟨(Upd.drew _).to, (B33.keep (Upd.drew _) (fun h => h)), (B34.keep (Upd.drew _) (fun h => h))⟩ ⟨?_, ?_, ?_, ?_, ?_, ?_, trivial⟩ ?_
    · -- 0
      intro D ρ w35 hcD hnD hdD hW
      obtain ⟨u36, B37, B38⟩ := hW
      have zu36 := u36.size
      have E39 := E29.next u36 (fun i hi (h : i = bk12 ∨ i = bk17) => show False by first | omega | assumption)
      have d2 := hcD.late 2 hnD rfl
      have B40 := B37
      simp only [d2, cond_true, cond_false] at B40
      have d3 := hcD.late 3 hnD rfl
      have B41 := B38
      simp only [d3, cond_true, cond_false] at B41
      refine ⟨[(4, .pointer (some ⟨bk12, 0, none⟩))], ⟨.inr ⟨rfl, rfl⟩, trivial⟩, fun Lr => ?_⟩
      show WL _ _ _ _ _ _ _ ((4, .pointer (some ⟨bk12, 0, none⟩)) :: Lr) _
      refine t_loadN (vs := [.int .i64 0, .int .i64 0]) Try.isAgg45 Try.sizeOf45 rfl rfl rfl (B40.at.sub 0 2) rfl ?_
      refine t_nil' ?_
      exact fun a ha => ⟨rfl, _, (fun v' h => by cases h; rfl), ha, ⟨u36, B37, B38⟩⟩
    · -- 1
      intro D ρ w42 hcD hnD hdD hW
      obtain ⟨u43, B44, B45⟩ := hW
      have zu43 := u43.size
      have E46 := E29.next u43 (fun i hi (h : i = bk12 ∨ i = bk17) => show False by first | omega | assumption)
      have d3 := hcD.late 3 hnD rfl
      have B47 := B45
      simp only [d3, cond_true, cond_false] at B47
      refine ⟨[(5, .pointer (some ⟨bk17, 0, none⟩))], ⟨.inr ⟨rfl, rfl⟩, trivial⟩, fun Lr => ?_⟩
      show WL _ _ _ _ _ _ _ ((5, .pointer (some ⟨bk17, 0, none⟩)) :: Lr) _
      refine t_loadN (vs := [.int .i64 0, .int .i64 0]) Try.isAgg45 Try.sizeOf45 rfl rfl rfl (B47.at.sub 0 2) rfl ?_
      refine t_nil' ?_
      exact fun a ha => ⟨rfl, _, (fun v' h => by cases h; rfl), ha, ⟨u43, B44, B45⟩⟩
    · -- 2
      intro D ρ w48 hcD hnD hdD hW
      obtain ⟨u49, B50, B51⟩ := hW
      have zu49 := u49.size
      have E52 := E29.next u49 (fun i hi (h : i = bk12 ∨ i = bk17) => show False by first | omega | assumption)
      have B53 := B50
      simp only [hnD, cond_true, cond_false] at B53
      have d3 := hcD.late 3 hnD rfl
      have B54 := B51
      simp only [d3, cond_true, cond_false] at B54
      refine ⟨[(4, .pointer (some ⟨bk12, 0, none⟩)), (17, .agg #[.int .i64 0, .int .i64 0])], ⟨.inr ⟨rfl, rfl⟩, .inl ⟨0, some (.agg #[.int .i64 0, .int .i64 0]), rfl, rfl, rfl⟩, trivial⟩, fun Lr => ?_⟩
      show WL _ _ _ _ _ _ _ ((4, .pointer (some ⟨bk12, 0, none⟩)) :: (17, .agg #[.int .i64 0, .int .i64 0]) :: Lr) _
      refine t_store (vs := [.int .i64 0, .int .i64 0]) Try.sizeOf45 rfl rfl rfl B53 rfl rfl (Nat.le_of_ble_eq_true rfl) (by simp [Value.oneCell']) (fun w55 sw55 B57 u56 => ?_)
      have zu56 := u56.size
      have E58 := E52.next u56 (fun i hi (h : i = bk12) => show False by first | omega | assumption)
      have B57 : Blk w55 bk12 45 [.int .i64 0, .int .i64 0] := B57
      refine t_nil' ?_
      exact fun a ha => ⟨rfl, ha, ⟨(u49.next u56 (fun i hi (h : i = bk12) => show i = bk12 ∨ i = bk17 by first | omega | assumption)), (by show Blk w55 bk12 45 [.int .i64 0, .int .i64 0]; exact B57), (B51.keep u56 (show ¬ (bk17 = bk12) by first | omega | assumption))⟩⟩
    · -- 3
      intro D ρ w59 hcD hnD hdD hW
      obtain ⟨u60, B61, B62⟩ := hW
      have zu60 := u60.size
      have E63 := E29.next u60 (fun i hi (h : i = bk12 ∨ i = bk17) => show False by first | omega | assumption)
      have d2 := hdD 2 rfl
      have B64 := B61
      simp only [d2, cond_true, cond_false] at B64
      have B65 := B62
      simp only [hnD, cond_true, cond_false] at B65
      refine ⟨[(5, .pointer (some ⟨bk17, 0, none⟩)), (18, .agg #[.int .i64 0, .int .i64 0])], ⟨.inr ⟨rfl, rfl⟩, .inl ⟨1, some (.agg #[.int .i64 0, .int .i64 0]), rfl, rfl, rfl⟩, trivial⟩, fun Lr => ?_⟩
      show WL _ _ _ _ _ _ _ ((5, .pointer (some ⟨bk17, 0, none⟩)) :: (18, .agg #[.int .i64 0, .int .i64 0]) :: Lr) _
      refine t_store (vs := [.int .i64 0, .int .i64 0]) Try.sizeOf45 rfl rfl rfl B65 rfl rfl (Nat.le_of_ble_eq_true rfl) (by simp [Value.oneCell']) (fun w66 sw66 B68 u67 => ?_)
      have zu67 := u67.size
      have E69 := E63.next u67 (fun i hi (h : i = bk17) => show False by first | omega | assumption)
      have B68 : Blk w66 bk17 45 [.int .i64 0, .int .i64 0] := B68
      refine t_nil' ?_
      exact fun a ha => ⟨rfl, ha, ⟨(u60.next u67 (fun i hi (h : i = bk17) => show i = bk12 ∨ i = bk17 by first | omega | assumption)), (B61.keep u67 (show ¬ (bk12 = bk17) by first | omega | assumption)), (by show Blk w66 bk17 45 [.int .i64 0, .int .i64 0]; exact B68)⟩⟩
    · exact fun D ρ w hcD hnD hdD hW => ⟨[], trivial, fun Lr => t_assign rfl rfl rfl (t_nil' fun a ha => ⟨rfl, _, (fun v' h => by cases h; rfl), ha, hW⟩)⟩
    · exact fun D ρ w hcD hnD hdD hW => ⟨[], trivial, fun Lr => t_assign rfl rfl rfl (t_nil' fun a ha => ⟨rfl, _, (fun v' h => by cases h; rfl), ha, hW⟩)⟩
    intro ρ w70 hW
    obtain ⟨u71, B72, B73⟩ := hW
    have zu71 := u71.size
    have E74 := E29.next u71 (fun i hi (h : i = bk12 ∨ i = bk17) => show False by first | omega | assumption)
    have B72 : Blk w70 bk12 45 [.int .i64 0, .int .i64 0] := B72
    have B73 : Blk w70 bk17 45 [.int .i64 0, .int .i64 0] := B73
    refine QK.weak [(2, .pointer (some ⟨bk2, 0, none⟩)), (3, .pointer (some ⟨bk7, 0, none⟩)), (4, .pointer (some ⟨bk12, 0, none⟩)), (5, .pointer (some ⟨bk17, 0, none⟩)), (6, .bool false), (7, .int .i64 2)] ⟨rfl, rfl, rfl, rfl, rfl, rfl, trivial⟩ ?_
    refine hK30 _ _ ?_
    refine c_ret ?_
    refine f_ret4 (v1 := .agg #[.int .i64 0, .int .i64 0]) (v2 := .agg #[.int .i64 0, .int .i64 0]) (v3 := .bool false) (v4 := .int .i64 2) Try.results40 ⟨_, _, rfl, run_loadVarN (vs := [.int .i64 0, .int .i64 0]) Try.isAgg45 Try.sizeOf45 rfl (B72.at.sub 0 2)⟩ ⟨_, _, rfl, run_loadVarN (vs := [.int .i64 0, .int .i64 0]) Try.isAgg45 Try.sizeOf45 rfl (B73.at.sub 0 2)⟩ rfl rfl ?_
    exact ⟨by (try have hb := okVoy_bad g12); simp_all [ThrE, ThrS], E74⟩
  · -- not .bool (decide ((chk v) ≠ 0))
    have B75 := (((B9.keep u15 (fun h => h)).keep u20 (fun h => h)).keep u27 (fun h => h))
    refine t_loadN (vs := [.int .i64 n.frm, .int .i64 n.to, .int .i64 n.wid, .bool n.single]) Try.isAgg72 Try.sizeOf72 rfl rfl rfl (B75.at.sub 0 4) rfl ?_
    refine t_call (vs := [.agg #[.int .i64 n.frm, .int .i64 n.to, .int .i64 n.wid, .bool n.single]]) own76 rfl rfl rfl rfl (isNarrow_c n _) (fun v76 w77 r79 => ?_)
    obtain ⟨rfl, u78⟩ := r79
    have zu78 := u78.size
    have E80 := E29.next u78 (fun _ _ h => h.elim)
    refine t_not rfl rfl rfl ?_
    refine t_pick_f rfl rfl rfl rfl ?_
    refine t_nil' ?_
    refine hK23 _ _ ?_
    refine c_cond rfl (fun g16 => ?_) (fun g16 => ?_)
    · -- .bool (!(okNar n))
      refine c_seq fun K81 hK81 => ?_
      have B84 := (((B14.keep u20 (fun h => h)).keep u27 (fun h => h)).keep u78 (fun h => h))
      have B85 := ((B19.keep u27 (fun h => h)).keep u78 (fun h => h))
      refine WC.weak [(0, .agg #[.int .i64 v.st.lo, .int .i64 v.st.hi, .slice ao ((v.runs).length) cap, .int .i64 v.len, .int .i64 v.wid]), (1, .agg #[.int .i64 n.frm, .int .i64 n.to, .int .i64 n.wid, .bool n.single]), (2, .pointer (some ⟨bk2, 0, none⟩)), (3, .pointer (some ⟨bk7, 0, none⟩)), (4, .pointer (some ⟨bk12, 0, none⟩)), (5, .pointer (some ⟨bk17, 0, none⟩)), (6, .bool false), (7, .int .i64 0), (9, .agg #[.int .i64 v.st.lo, .int .i64 v.st.hi, .slice ao ((v.runs).length) cap, .int .i64 v.len, .int .i64 v.wid]), (10, .int .i64 (chk v)), (11, .bool (decide ((chk v) ≠ 0))), (12, .bool false), (13, .agg #[.int .i64 n.frm, .int .i64 n.to, .int .i64 n.wid, .bool n.single]), (14, .bool (okNar n)), (15, .bool (!(okNar n))), (16, .bool (!(okNar n)))] ⟨rfl, rfl, rfl, rfl, rfl, rfl, rfl, rfl, rfl, rfl, rfl, rfl, rfl, rfl, rfl, rfl, trivial⟩ ?_
      refine c_drawn follows 6 [some (17, some (.agg #[.int .i64 0, .int .i64 0])), some (18, some (.agg #[.int .i64 0, .int .i64 0])), none, none, some (6, some (.bool false)), some (7, some (.int .i64 2))] [[], [], [0, 0], [1, 2, 0, 1, 2], [3, 0, 1, 2, 3], [4, 0, 1, 2, 3, 4]] (fun D _ w => Upd (fun i => i = bk12 ∨ i = bk17) w77 w ∧ Blk w bk12 45 [(bif D 2 then .int .i64 0 else .int .i64 0), (bif D 2 then .int .i64 0 else .int .i64 0)] ∧ Blk w bk17 45 [(bif D 3 then .int .i64 0 else .int .i64 0), (bif D 3 then .int .i64 0 else .int .i64 0)]) rfl rfl rfl (by kernel_rfl) (by kernel_rfl) ⟨(Upd.drew _).to, (B84.keep (Upd.drew _) (fun h => h)), (B85.keep (Upd.drew _) (fun h => h))⟩ ⟨?_, ?_, ?_, ?_, ?_, ?_, trivial⟩ ?_
      · -- 0
        intro D ρ w86 hcD hnD hdD hW
        obtain ⟨u87, B88, B89⟩ := hW
        have zu87 := u87.size
        have E90 := E80.next u87 (fun i hi (h : i = bk12 ∨ i = bk17) => show False by first | omega | assumption)
        have d2 := hcD.late 2 hnD rfl
        have B91 := B88
        simp only [d2, cond_true, cond_false] at B91
        have d3 := hcD.late 3 hnD rfl
        have B92 := B89
        simp only [d3, cond_true, cond_false] at B92
        refine ⟨[(4, .pointer (some ⟨bk12, 0, none⟩))], ⟨.inr ⟨rfl, rfl⟩, trivial⟩, fun Lr => ?_⟩
        show WL _ _ _ _ _ _ _ ((4, .pointer (some ⟨bk12, 0, none⟩)) :: Lr) _
        refine t_loadN (vs := [.int .i64 0, .int .i64 0]) Try.isAgg45 Try.sizeOf45 rfl rfl rfl (B91.at.sub 0 2) rfl ?_
        refine t_nil' ?_
        exact fun a ha => ⟨rfl, _, (fun v' h => by cases h; rfl), ha, ⟨u87, B88, B89⟩⟩
      · -- 1
        intro D ρ w93 hcD hnD hdD hW
        obtain ⟨u94, B95, B96⟩ := hW
        have zu94 := u94.size
        have E97 := E80.next u94 (fun i hi (h : i = bk12 ∨ i = bk17) => show False by first | omega | assumption)
        have d3 := hcD.late 3 hnD rfl
        have B98 := B96
        simp only [d3, cond_true, cond_false] at B98
        refine ⟨[(5, .pointer (some ⟨bk17, 0, none⟩))], ⟨.inr ⟨rfl, rfl⟩, trivial⟩, fun Lr => ?_⟩
        show WL _ _ _ _ _ _ _ ((5, .pointer (some ⟨bk17, 0, none⟩)) :: Lr) _
        refine t_loadN (vs := [.int .i64 0, .int .i64 0]) Try.isAgg45 Try.sizeOf45 rfl rfl rfl (B98.at.sub 0 2) rfl ?_
        refine t_nil' ?_
        exact fun a ha => ⟨rfl, _, (fun v' h => by cases h; rfl), ha, ⟨u94, B95, B96⟩⟩
      · -- 2
        intro D ρ w99 hcD hnD hdD hW
        obtain ⟨u100, B101, B102⟩ := hW
        have zu100 := u100.size
        have E103 := E80.next u100 (fun i hi (h : i = bk12 ∨ i = bk17) => show False by first | omega | assumption)
        have B104 := B101
        simp only [hnD, cond_true, cond_false] at B104
        have d3 := hcD.late 3 hnD rfl
        have B105 := B102
        simp only [d3, cond_true, cond_false] at B105
        refine ⟨[(4, .pointer (some ⟨bk12, 0, none⟩)), (17, .agg #[.int .i64 0, .int .i64 0])], ⟨.inr ⟨rfl, rfl⟩, .inl ⟨0, some (.agg #[.int .i64 0, .int .i64 0]), rfl, rfl, rfl⟩, trivial⟩, fun Lr => ?_⟩
        show WL _ _ _ _ _ _ _ ((4, .pointer (some ⟨bk12, 0, none⟩)) :: (17, .agg #[.int .i64 0, .int .i64 0]) :: Lr) _
        refine t_store (vs := [.int .i64 0, .int .i64 0]) Try.sizeOf45 rfl rfl rfl B104 rfl rfl (Nat.le_of_ble_eq_true rfl) (by simp [Value.oneCell']) (fun w106 sw106 B108 u107 => ?_)
        have zu107 := u107.size
        have E109 := E103.next u107 (fun i hi (h : i = bk12) => show False by first | omega | assumption)
        have B108 : Blk w106 bk12 45 [.int .i64 0, .int .i64 0] := B108
        refine t_nil' ?_
        exact fun a ha => ⟨rfl, ha, ⟨(u100.next u107 (fun i hi (h : i = bk12) => show i = bk12 ∨ i = bk17 by first | omega | assumption)), (by show Blk w106 bk12 45 [.int .i64 0, .int .i64 0]; exact B108), (B102.keep u107 (show ¬ (bk17 = bk12) by first | omega | assumption))⟩⟩
      · -- 3
        intro D ρ w110 hcD hnD hdD hW
        obtain ⟨u111, B112, B113⟩ := hW
        have zu111 := u111.size
        have E114 := E80.next u111 (fun i hi (h : i = bk12 ∨ i = bk17) => show False by first | omega | assumption)
        have d2 := hdD 2 rfl
        have B115 := B112
        simp only [d2, cond_true, cond_false] at B115
        have B116 := B113
        simp only [hnD, cond_true, cond_false] at B116
        refine ⟨[(5, .pointer (some ⟨bk17, 0, none⟩)), (18, .agg #[.int .i64 0, .int .i64 0])], ⟨.inr ⟨rfl, rfl⟩, .inl ⟨1, some (.agg #[.int .i64 0, .int .i64 0]), rfl, rfl, rfl⟩, trivial⟩, fun Lr => ?_⟩
        show WL _ _ _ _ _ _ _ ((5, .pointer (some ⟨bk17, 0, none⟩)) :: (18, .agg #[.int .i64 0, .int .i64 0]) :: Lr) _
        refine t_store (vs := [.int .i64 0, .int .i64 0]) Try.sizeOf45 rfl rfl rfl B116 rfl rfl (Nat.le_of_ble_eq_true rfl) (by simp [Value.oneCell']) (fun w117 sw117 B119 u118 => ?_)
        have zu118 := u118.size
        have E120 := E114.next u118 (fun i hi (h : i = bk17) => show False by first | omega | assumption)
        have B119 : Blk w117 bk17 45 [.int .i64 0, .int .i64 0] := B119
        refine t_nil' ?_
        exact fun a ha => ⟨rfl, ha, ⟨(u111.next u118 (fun i hi (h : i = bk17) => show i = bk12 ∨ i = bk17 by first | omega | assumption)), (B112.keep u118 (show ¬ (bk12 = bk17) by first | omega | assumption)), (by show Blk w117 bk17 45 [.int .i64 0, .int .i64 0]; exact B119)⟩⟩
      · exact fun D ρ w hcD hnD hdD hW => ⟨[], trivial, fun Lr => t_assign rfl rfl rfl (t_nil' fun a ha => ⟨rfl, _, (fun v' h => by cases h; rfl), ha, hW⟩)⟩
      · exact fun D ρ w hcD hnD hdD hW => ⟨[], trivial, fun Lr => t_assign rfl rfl rfl (t_nil' fun a ha => ⟨rfl, _, (fun v' h => by cases h; rfl), ha, hW⟩)⟩
      intro ρ w121 hW
      obtain ⟨u122, B123, B124⟩ := hW
      have zu122 := u122.size
      have E125 := E80.next u122 (fun i hi (h : i = bk12 ∨ i = bk17) => show False by first | omega | assumption)
      have B123 : Blk w121 bk12 45 [.int .i64 0, .int .i64 0] := B123
      have B124 : Blk w121 bk17 45 [.int .i64 0, .int .i64 0] := B124
      refine QK.weak [(2, .pointer (some ⟨bk2, 0, none⟩)), (3, .pointer (some ⟨bk7, 0, none⟩)), (4, .pointer (some ⟨bk12, 0, none⟩)), (5, .pointer (some ⟨bk17, 0, none⟩)), (6, .bool false), (7, .int .i64 2)] ⟨rfl, rfl, rfl, rfl, rfl, rfl, trivial⟩ ?_
      refine hK81 _ _ ?_
      refine c_ret ?_
      refine f_ret4 (v1 := .agg #[.int .i64 0, .int .i64 0]) (v2 := .agg #[.int .i64 0, .int .i64 0]) (v3 := .bool false) (v4 := .int .i64 2) Try.results40 ⟨_, _, rfl, run_loadVarN (vs := [.int .i64 0, .int .i64 0]) Try.isAgg45 Try.sizeOf45 rfl (B123.at.sub 0 2)⟩ ⟨_, _, rfl, run_loadVarN (vs := [.int .i64 0, .int .i64 0]) Try.isAgg45 Try.sizeOf45 rfl (B124.at.sub 0 2)⟩ rfl rfl ?_
      exact ⟨by (try have hb := okVoy_bad g12); simp_all [ThrE, ThrS], E125⟩
    · -- not .bool (!(okNar n))
      refine c_skip ?_
      refine hK22 _ _ ?_
      refine c_seq fun K126 hK126 => ?_
      refine c_region ?_
      have hk := okVoy_of g12
      have hv := okVoy_rng hk
      have hm : okNar n = true := by simpa using g16
      have hn := okNar_rng hm
      have B127 := ((B24.keep u27 (fun h => h)).keep u78 (fun h => h))
      refine t_loadN (vs := [.int .i64 v.st.lo, .int .i64 v.st.hi, .slice ao ((v.runs).length) cap, .int .i64 v.len, .int .i64 v.wid]) Try.isAgg48 Try.sizeOf48 rfl rfl rfl (B127.at.sub 0 5) rfl ?_
      have B128 := (B75.keep u78 (fun h => h))
      refine t_loadN (vs := [.int .i64 n.frm, .int .i64 n.to, .int .i64 n.wid, .bool n.single]) Try.isAgg72 Try.sizeOf72 rfl rfl rfl (B128.at.sub 0 4) rfl ?_
      refine t_call (vs := [.agg #[.int .i64 v.st.lo, .int .i64 v.st.hi, .slice ao ((v.runs).length) cap, .int .i64 v.len, .int .i64 v.wid], .agg #[.int .i64 n.frm, .int .i64 n.to, .int .i64 n.wid, .bool n.single]]) own77 rfl rfl rfl rfl (through_c v ao b o cap n _ (hs.keep E80 (fun _ h => h)) hv hn) (fun v129 w130 r132 => ?_)
      obtain ⟨rfl, u131⟩ := r132
      have zu131 := u131.size
      have E133 := E80.next u131 (fun _ _ h => h.elim)
      refine t_move rfl rfl rfl ?_
      refine t_extract (vs := [.agg #[.int .i64 ((thrS v n).inn.lo), .int .i64 ((thrS v n).inn.hi), .int .i64 ((thrS v n).out.lo), .int .i64 ((thrS v n).out.hi), .bool ((thrS v n).there)], .int .i64 (thrE v n)]) rfl rfl rfl rfl ?_
      refine t_extract (vs := [.agg #[.int .i64 ((thrS v n).inn.lo), .int .i64 ((thrS v n).inn.hi), .int .i64 ((thrS v n).out.lo), .int .i64 ((thrS v n).out.hi), .bool ((thrS v n).there)], .int .i64 (thrE v n)]) rfl rfl rfl rfl ?_
      refine t_alloc (cs := [.int .i64 0, .int .i64 0, .int .i64 0, .int .i64 0, .bool false]) Try.zeroValue141 rfl rfl rfl (fun bk134 w135 ebk134 sbk134 B136 u137 => ?_)
      have zu137 := u137.size
      have E138 := E133.next u137 (fun _ _ h => h.elim)
      refine t_store (vs := [.int .i64 ((thrS v n).inn.lo), .int .i64 ((thrS v n).inn.hi), .int .i64 ((thrS v n).out.lo), .int .i64 ((thrS v n).out.hi), .bool ((thrS v n).there)]) Try.sizeOf141 rfl rfl rfl B136 rfl rfl (Nat.le_of_ble_eq_true rfl) (by simp [Value.oneCell']) (fun w139 sw139 B141 u140 => ?_)
      have zu140 := u140.size
      have E142 := E138.next u140 (fun i hi (h : i = bk134) => show False by first | omega | assumption)
      have B141 : Blk w139 bk134 141 [.int .i64 ((thrS v n).inn.lo), .int .i64 ((thrS v n).inn.hi), .int .i64 ((thrS v n).out.lo), .int .i64 ((thrS v n).out.hi), .bool ((thrS v n).there)] := B141
      refine t_assign rfl rfl rfl ?_
      refine t_nil' ?_
      refine hK126 _ _ ?_
      refine c_seq fun K143 hK143 => ?_
      have B144 := ((((((B14.keep u20 (fun h => h)).keep u27 (fun h => h)).keep u78 (fun h => h)).keep u131 (fun h => h)).keep u137 (fun h => h)).keep u140 (show ¬ (bk12 = bk134) by first | omega | assumption))
      have B145 := (((((B19.keep u27 (fun h => h)).keep u78 (fun h => h)).keep u131 (fun h => h)).keep u137 (fun h => h)).keep u140 (show ¬ (bk17 = bk134) by first | omega | assumption))
      refine WC.weak [(0, .agg #[.int .i64 v.st.lo, .int .i64 v.st.hi, .slice ao ((v.runs).length) cap, .int .i64 v.len, .int .i64 v.wid]), (1, .agg #[.int .i64 n.frm, .int .i64 n.to, .int .i64 n.wid, .bool n.single]), (2, .pointer (some ⟨bk2, 0, none⟩)), (3, .pointer (some ⟨bk7, 0, none⟩)), (4, .pointer (some ⟨bk12, 0, none⟩)), (5, .pointer (some ⟨bk17, 0, none⟩)), (6, .bool false), (7, .int .i64 (thrE v n)), (8, .pointer (some ⟨bk134, 0, none⟩)), (9, .agg #[.int .i64 v.st.lo, .int .i64 v.st.hi, .slice ao ((v.runs).length) cap, .int .i64 v.len, .int .i64 v.wid]), (10, .int .i64 (chk v)), (11, .bool (decide ((chk v) ≠ 0))), (12, .bool false), (13, .agg #[.int .i64 n.frm, .int .i64 n.to, .int .i64 n.wid, .bool n.single]), (14, .bool (okNar n)), (15, .bool (!(okNar n))), (16, .bool (!(okNar n))), (19, .tuple #[.agg #[.int .i64 ((thrS v n).inn.lo), .int .i64 ((thrS v n).inn.hi), .int .i64 ((thrS v n).out.lo), .int .i64 ((thrS v n).out.hi), .bool ((thrS v n).there)], .int .i64 (thrE v n)]), (20, .agg #[.int .i64 v.st.lo, .int .i64 v.st.hi, .slice ao ((v.runs).length) cap, .int .i64 v.len, .int .i64 v.wid]), (21, .agg #[.int .i64 n.frm, .int .i64 n.to, .int .i64 n.wid, .bool n.single]), (22, .tuple #[.agg #[.int .i64 ((thrS v n).inn.lo), .int .i64 ((thrS v n).inn.hi), .int .i64 ((thrS v n).out.lo), .int .i64 ((thrS v n).out.hi), .bool ((thrS v n).there)], .int .i64 (thrE v n)]), (23, .agg #[.int .i64 ((thrS v n).inn.lo), .int .i64 ((thrS v n).inn.hi), .int .i64 ((thrS v n).out.lo), .int .i64 ((thrS v n).out.hi), .bool ((thrS v n).there)]), (24, .int .i64 (thrE v n))] ⟨rfl, rfl, rfl, rfl, rfl, rfl, rfl, rfl, rfl, rfl, rfl, rfl, rfl, rfl, rfl, rfl, rfl, rfl, rfl, rfl, rfl, rfl, rfl, trivial⟩ ?_
      refine c_drawn follows 11 [some (25, some (.pointer (some ⟨bk134, 0, none⟩))), some (26, some (.agg #[.int .i64 ((thrS v n).inn.lo), .int .i64 ((thrS v n).inn.hi)])), some (27, some (.pointer (some ⟨bk134, 2, none⟩))), some (28, some (.agg #[.int .i64 ((thrS v n).out.lo), .int .i64 ((thrS v n).out.hi)])), some (29, some (.pointer (some ⟨bk134, 4, none⟩))), some (30, some (.bool ((thrS v n).there))), some (31, some (.int .i64 (thrE v n))), none, none, some (6, some (.bool ((thrS v n).there))), some (7, some (.int .i64 (thrE v n)))] [[], [0], [], [2], [], [4], [], [1, 0, 1], [3, 7, 0, 1, 2, 3, 7], [5, 8, 0, 1, 2, 3, 4, 5, 7, 8], [6, 9, 0, 1, 2, 3, 4, 5, 6, 7, 8, 9]] (fun D _ w => Upd (fun i => i = bk12 ∨ i = bk17) w139 w ∧ Blk w bk12 45 [(bif D 7 then .int .i64 ((thrS v n).inn.lo) else .int .i64 0), (bif D 7 then .int .i64 ((thrS v n).inn.hi) else .int .i64 0)] ∧ Blk w bk17 45 [(bif D 8 then .int .i64 ((thrS v n).out.lo) else .int .i64 0), (bif D 8 then .int .i64 ((thrS v n).out.hi) else .int .i64 0)]) rfl rfl rfl (by kernel_rfl) (by kernel_rfl) ⟨(Upd.drew _).to, (B144.keep (Upd.drew _) (fun h => h)), (B145.keep (Upd.drew _) (fun h => h))⟩ ⟨?_, ?_, ?_, ?_, ?_, ?_, ?_, ?_, ?_, ?_, ?_, trivial⟩ ?_
      · exact fun D ρ w hcD hnD hdD hW => ⟨[(8, .pointer (some ⟨bk134, 0, none⟩))], ⟨.inr ⟨rfl, rfl⟩, trivial⟩, fun Lr => t_field Try.underlying141 rfl Try.sizeOf45 (0) rfl rfl rfl rfl (t_nil' fun a ha => ⟨rfl, _, (fun v' h => by cases h; rfl), ha, hW⟩)⟩
      · -- 1
        intro D ρ w146 hcD hnD hdD hW
        obtain ⟨u147, B148, B149⟩ := hW
        have zu147 := u147.size
        have E150 := E142.next u147 (fun i hi (h : i = bk12 ∨ i = bk17) => show False by first | omega | assumption)
        have d7 := hcD.late 7 hnD rfl
        have B151 := B148
        simp only [d7, cond_true, cond_false] at B151
        have d8 := hcD.late 8 hnD rfl
        have B152 := B149
        simp only [d8, cond_true, cond_false] at B152
        refine ⟨[(25, .pointer (some ⟨bk134, 0, none⟩))], ⟨.inl ⟨0, some (.pointer (some ⟨bk134, 0, none⟩)), rfl, rfl, rfl⟩, trivial⟩, fun Lr => ?_⟩
        show WL _ _ _ _ _ _ _ ((25, .pointer (some ⟨bk134, 0, none⟩)) :: Lr) _
        have B153 := (B141.keep u147 (show ¬ (bk134 = bk12 ∨ bk134 = bk17) by first | omega | assumption))
        refine t_loadN (vs := [.int .i64 ((thrS v n).inn.lo), .int .i64 ((thrS v n).inn.hi)]) Try.isAgg45 Try.sizeOf45 rfl rfl rfl (B153.at.sub 0 2) rfl ?_
        refine t_nil' ?_
        exact fun a ha => ⟨rfl, _, (fun v' h => by cases h; rfl), ha, ⟨u147, B148, B149⟩⟩
      · exact fun D ρ w hcD hnD hdD hW => ⟨[(8, .pointer (some ⟨bk134, 0, none⟩))], ⟨.inr ⟨rfl, rfl⟩, trivial⟩, fun Lr => t_field Try.underlying141 rfl Try.sizeOf45 (2) rfl rfl rfl rfl (t_nil' fun a ha => ⟨rfl, _, (fun v' h => by cases h; rfl), ha, hW⟩)⟩
      · -- 3
        intro D ρ w154 hcD hnD hdD hW
        obtain ⟨u155, B156, B157⟩ := hW
        have zu155 := u155.size
        have E158 := E142.next u155 (fun i hi (h : i = bk12 ∨ i = bk17) => show False by first | omega | assumption)
        have d8 := hcD.late 8 hnD rfl
        have B159 := B157
        simp only [d8, cond_true, cond_false] at B159
        refine ⟨[(27, .pointer (some ⟨bk134, 2, none⟩))], ⟨.inl ⟨2, some (.pointer (some ⟨bk134, 2, none⟩)), rfl, rfl, rfl⟩, trivial⟩, fun Lr => ?_⟩
        show WL _ _ _ _ _ _ _ ((27, .pointer (some ⟨bk134, 2, none⟩)) :: Lr) _
        have B160 := (B141.keep u155 (show ¬ (bk134 = bk12 ∨ bk134 = bk17) by first | omega | assumption))
        refine t_loadN (vs := [.int .i64 ((thrS v n).out.lo), .int .i64 ((thrS v n).out.hi)]) Try.isAgg45 Try.sizeOf45 rfl rfl rfl (B160.at.sub 2 2) rfl ?_
        refine t_nil' ?_
        exact fun a ha => ⟨rfl, _, (fun v' h => by cases h; rfl), ha, ⟨u155, B156, B157⟩⟩
      · exact fun D ρ w hcD hnD hdD hW => ⟨[(8, .pointer (some ⟨bk134, 0, none⟩))], ⟨.inr ⟨rfl, rfl⟩, trivial⟩, fun Lr => t_field Try.underlying141 rfl Try.sizeOf4 (4) rfl rfl rfl rfl (t_nil' fun a ha => ⟨rfl, _, (fun v' h => by cases h; rfl), ha, hW⟩)⟩
      · -- 5
        intro D ρ w161 hcD hnD hdD hW
        obtain ⟨u162, B163, B164⟩ := hW
        have zu162 := u162.size
        have E165 := E142.next u162 (fun i hi (h : i = bk12 ∨ i = bk17) => show False by first | omega | assumption)
        refine ⟨[(29, .pointer (some ⟨bk134, 4, none⟩))], ⟨.inl ⟨4, some (.pointer (some ⟨bk134, 4, none⟩)), rfl, rfl, rfl⟩, trivial⟩, fun Lr => ?_⟩
        show WL _ _ _ _ _ _ _ ((29, .pointer (some ⟨bk134, 4, none⟩)) :: Lr) _
        have B166 := (B141.keep u162 (show ¬ (bk134 = bk12 ∨ bk134 = bk17) by first | omega | assumption))
        refine t_load Try.isAgg4 rfl rfl rfl (B166.get rfl) ?_
        refine t_nil' ?_
        exact fun a ha => ⟨rfl, _, (fun v' h => by cases h; rfl), ha, ⟨u162, B163, B164⟩⟩
      · exact fun D ρ w hcD hnD hdD hW => ⟨[(7, .int .i64 (thrE v n))], ⟨.inr ⟨rfl, rfl⟩, trivial⟩, fun Lr => t_move rfl rfl rfl (t_nil' fun a ha => ⟨rfl, _, (fun v' h => by cases h; rfl), ha, hW⟩)⟩
      · -- 7
        intro D ρ w167 hcD hnD hdD hW
        obtain ⟨u168, B169, B170⟩ := hW
        have zu168 := u168.size
        have E171 := E142.next u168 (fun i hi (h : i = bk12 ∨ i = bk17) => show False by first | omega | assumption)
        have B172 := B169
        simp only [hnD, cond_true, cond_false] at B172
        have d8 := hcD.late 8 hnD rfl
        have B173 := B170
        simp only [d8, cond_true, cond_false] at B173
        refine ⟨[(4, .pointer (some ⟨bk12, 0, none⟩)), (26, .agg #[.int .i64 ((thrS v n).inn.lo), .int .i64 ((thrS v n).inn.hi)])], ⟨.inr ⟨rfl, rfl⟩, .inl ⟨1, some (.agg #[.int .i64 ((thrS v n).inn.lo), .int .i64 ((thrS v n).inn.hi)]), rfl, rfl, rfl⟩, trivial⟩, fun Lr => ?_⟩
        show WL _ _ _ _ _ _ _ ((4, .pointer (some ⟨bk12, 0, none⟩)) :: (26, .agg #[.int .i64 ((thrS v n).inn.lo), .int .i64 ((thrS v n).inn.hi)]) :: Lr) _
        refine t_store (vs := [.int .i64 ((thrS v n).inn.lo), .int .i64 ((thrS v n).inn.hi)]) Try.sizeOf45 rfl rfl rfl B172 rfl rfl (Nat.le_of_ble_eq_true rfl) (by simp [Value.oneCell']) (fun w174 sw174 B176 u175 => ?_)
        have zu175 := u175.size
        have E177 := E171.next u175 (fun i hi (h : i = bk12) => show False by first | omega | assumption)
        have B176 : Blk w174 bk12 45 [.int .i64 ((thrS v n).inn.lo), .int .i64 ((thrS v n).inn.hi)] := B176
        refine t_nil' ?_
        exact fun a ha => ⟨rfl, ha, ⟨(u168.next u175 (fun i hi (h : i = bk12) => show i = bk12 ∨ i = bk17 by first | omega | assumption)), (by show Blk w174 bk12 45 [.int .i64 ((thrS v n).inn.lo), .int .i64 ((thrS v n).inn.hi)]; exact B176), (B170.keep u175 (show ¬ (bk17 = bk12) by first | omega | assumption))⟩⟩
      · -- 8
        intro D ρ w178 hcD hnD hdD hW
        obtain ⟨u179, B180, B181⟩ := hW
        have zu179 := u179.size
        have E182 := E142.next u179 (fun i hi (h : i = bk12 ∨ i = bk17) => show False by first | omega | assumption)
        have d7 := hdD 7 rfl
        have B183 := B180
        simp only [d7, cond_true, cond_false] at B183
        have B184 := B181
        simp only [hnD, cond_true, cond_false] at B184
        refine ⟨[(5, .pointer (some ⟨bk17, 0, none⟩)), (28, .agg #[.int .i64 ((thrS v n).out.lo), .int .i64 ((thrS v n).out.hi)])], ⟨.inr ⟨rfl, rfl⟩, .inl ⟨3, some (.agg #[.int .i64 ((thrS v n).out.lo), .int .i64 ((thrS v n).out.hi)]), rfl, rfl, rfl⟩, trivial⟩, fun Lr => ?_⟩
        show WL _ _ _ _ _ _ _ ((5, .pointer (some ⟨bk17, 0, none⟩)) :: (28, .agg #[.int .i64 ((thrS v n).out.lo), .int .i64 ((thrS v n).out.hi)]) :: Lr) _
        refine t_store (vs := [.int .i64 ((thrS v n).out.lo), .int .i64 ((thrS v n).out.hi)]) Try.sizeOf45 rfl rfl rfl B184 rfl rfl (Nat.le_of_ble_eq_true rfl) (by simp [Value.oneCell']) (fun w185 sw185 B187 u186 => ?_)
        have zu186 := u186.size
        have E188 := E182.next u186 (fun i hi (h : i = bk17) => show False by first | omega | assumption)
        have B187 : Blk w185 bk17 45 [.int .i64 ((thrS v n).out.lo), .int .i64 ((thrS v n).out.hi)] := B187
        refine t_nil' ?_
        exact fun a ha => ⟨rfl, ha, ⟨(u179.next u186 (fun i hi (h : i = bk17) => show i = bk12 ∨ i = bk17 by first | omega | assumption)), (B180.keep u186 (show ¬ (bk12 = bk17) by first | omega | assumption)), (by show Blk w185 bk17 45 [.int .i64 ((thrS v n).out.lo), .int .i64 ((thrS v n).out.hi)]; exact B187)⟩⟩
      · exact fun D ρ w hcD hnD hdD hW => ⟨[(30, .bool ((thrS v n).there))], ⟨.inl ⟨5, some (.bool ((thrS v n).there)), rfl, rfl, rfl⟩, trivial⟩, fun Lr => t_assign rfl rfl rfl (t_nil' fun a ha => ⟨rfl, _, (fun v' h => by cases h; rfl), ha, hW⟩)⟩
      · exact fun D ρ w hcD hnD hdD hW => ⟨[(31, .int .i64 (thrE v n))], ⟨.inl ⟨6, some (.int .i64 (thrE v n)), rfl, rfl, rfl⟩, trivial⟩, fun Lr => t_assign rfl rfl rfl (t_nil' fun a ha => ⟨rfl, _, (fun v' h => by cases h; rfl), ha, hW⟩)⟩
      intro ρ w189 hW
      obtain ⟨u190, B191, B192⟩ := hW
      have zu190 := u190.size
      have E193 := E142.next u190 (fun i hi (h : i = bk12 ∨ i = bk17) => show False by first | omega | assumption)
      have B191 : Blk w189 bk12 45 [.int .i64 ((thrS v n).inn.lo), .int .i64 ((thrS v n).inn.hi)] := B191
      have B192 : Blk w189 bk17 45 [.int .i64 ((thrS v n).out.lo), .int .i64 ((thrS v n).out.hi)] := B192
      refine QK.weak [(4, .pointer (some ⟨bk12, 0, none⟩)), (5, .pointer (some ⟨bk17, 0, none⟩)), (6, .bool ((thrS v n).there)), (7, .int .i64 (thrE v n))] ⟨rfl, rfl, rfl, rfl, trivial⟩ ?_
      refine hK143 _ _ ?_
      refine c_ret ?_
      refine f_ret4 (v1 := .agg #[.int .i64 ((thrS v n).inn.lo), .int .i64 ((thrS v n).inn.hi)]) (v2 := .agg #[.int .i64 ((thrS v n).out.lo), .int .i64 ((thrS v n).out.hi)]) (v3 := .bool ((thrS v n).there)) (v4 := .int .i64 (thrE v n)) Try.results40 ⟨_, _, rfl, run_loadVarN (vs := [.int .i64 ((thrS v n).inn.lo), .int .i64 ((thrS v n).inn.hi)]) Try.isAgg45 Try.sizeOf45 rfl (B191.at.sub 0 2)⟩ ⟨_, _, rfl, run_loadVarN (vs := [.int .i64 ((thrS v n).out.lo), .int .i64 ((thrS v n).out.hi)]) Try.isAgg45 Try.sizeOf45 rfl (B192.at.sub 0 2)⟩ rfl rfl ?_
      exact ⟨by simp_all [ThrE, ThrS], E193⟩

theorem may_c (s o : Stay) (w0 : World) :
    CallsV Try.prog 78 [.agg #[.int .i64 s.inn.lo, .int .i64 s.inn.hi, .int .i64 s.out.lo, .int .i64 s.out.hi, .bool s.there], .agg #[.int .i64 o.inn.lo, .int .i64 o.inn.hi, .int .i64 o.out.lo, .int .i64 o.out.hi, .bool o.there]] w0 (fun v w' => v = .bool (mayB s o) ∧ Ext w0 w') := by
  have E0 := Upd.refl (fun _ => False) w0
  refine f_enter (N := 29) Try.func78 rfl rfl rfl ?_
  change WC _ _ _ _ _ _ [(0, .agg #[.int .i64 s.inn.lo, .int .i64 s.inn.hi, .int .i64 s.out.lo, .int .i64 s.out.hi, .bool s.there]), (1, .agg #[.int .i64 o.inn.lo, .int .i64 o.inn.hi, .int .i64 o.out.lo, .int .i64 o.out.hi, .bool o.there])] _
  refine c_seq fun K1 hK1 => ?_
  refine c_region ?_
  refine t_box (cs := [.int .i64 s.inn.lo, .int .i64 s.inn.hi, .int .i64 s.out.lo, .int .i64 s.out.hi, .bool s.there]) rfl rfl rfl rfl (fun bk2 w3 ebk2 sbk2 B4 u5 => ?_)
  have zu5 := u5.size
  have E6 := E0.next u5 (fun _ _ h => h.elim)
  refine t_box (cs := [.int .i64 o.inn.lo, .int .i64 o.inn.hi, .int .i64 o.out.lo, .int .i64 o.out.hi, .bool o.there]) rfl rfl rfl rfl (fun bk7 w8 ebk7 sbk7 B9 u10 => ?_)
  have zu10 := u10.size
  have E11 := E6.next u10 (fun _ _ h => h.elim)
  refine t_assign rfl rfl rfl ?_
  refine t_nil' ?_
  refine hK1 _ _ ?_
  refine c_seq fun K12 hK12 => ?_
  refine c_region ?_
  refine t_field Try.underlying141 rfl Try.sizeOf4 (4) rfl rfl rfl rfl ?_
  have B13 := (B4.keep u10 (fun h => h))
  refine t_load Try.isAgg4 rfl rfl rfl (B13.get rfl) ?_
  refine t_move rfl rfl rfl ?_
  refine t_split 7 rfl (fun g7 => ?_) (fun g7 => ?_)
  · -- .bool s.there
    refine t_field Try.underlying141 rfl Try.sizeOf4 (4) rfl rfl rfl rfl ?_
    refine t_load Try.isAgg4 rfl rfl rfl (B9.get rfl) ?_
    refine t_pick_t rfl rfl rfl rfl ?_
    refine t_move rfl rfl rfl ?_
    refine t_split 11 rfl (fun g11 => ?_) (fun g11 => ?_)
    · -- .bool o.there
      refine t_field Try.underlying141 rfl Try.sizeOf45 (0) rfl rfl rfl rfl ?_
      refine t_field Try.underlying45 rfl Try.sizeOf3 (0) rfl rfl rfl rfl ?_
      refine t_load Try.isAgg3 rfl rfl rfl (B13.get rfl) ?_
      refine t_field Try.underlying141 rfl Try.sizeOf45 (2) rfl rfl rfl rfl ?_
      refine t_field Try.underlying45 rfl Try.sizeOf3 (3) rfl rfl rfl rfl ?_
      refine t_load Try.isAgg3 rfl rfl rfl (B9.get rfl) ?_
      refine t_cmp rfl rfl rfl rfl rfl ?_
      refine t_pick_t rfl rfl rfl rfl ?_
      refine t_move rfl rfl rfl ?_
      refine t_splitp 20 rfl (fun g20 => ?_) (fun g20 => ?_)
      · -- .bool (decide (s.inn.lo ≤ o.out.hi))
        refine t_field Try.underlying141 rfl Try.sizeOf45 (0) rfl rfl rfl rfl ?_
        refine t_field Try.underlying45 rfl Try.sizeOf3 (0) rfl rfl rfl rfl ?_
        refine t_load Try.isAgg3 rfl rfl rfl (B9.get rfl) ?_
        refine t_field Try.underlying141 rfl Try.sizeOf45 (2) rfl rfl rfl rfl ?_
        refine t_field Try.underlying45 rfl Try.sizeOf3 (3) rfl rfl rfl rfl ?_
        refine t_load Try.isAgg3 rfl rfl rfl (B13.get rfl) ?_
        refine t_cmp rfl rfl rfl rfl rfl ?_
        refine t_pick_t rfl rfl rfl rfl ?_
        refine t_assign rfl rfl rfl ?_
        refine t_nil' ?_
        refine hK12 _ _ ?_
        refine c_ret ?_
        refine f_ret1 (v := .bool (decide (o.inn.lo ≤ s.out.hi))) Try.results78 rfl ?_
        exact ⟨by simp [mayB, *], E11⟩
      · -- not .bool (decide (s.inn.lo ≤ o.out.hi))
        refine t_skip rfl rfl rfl ?_
        refine t_skip rfl rfl rfl ?_
        refine t_skip rfl rfl rfl ?_
        refine t_skip rfl rfl rfl ?_
        refine t_skip rfl rfl rfl ?_
        refine t_skip rfl rfl rfl ?_
        refine t_skip rfl rfl rfl ?_
        refine t_pick_f rfl rfl rfl rfl ?_
        refine t_assign rfl rfl rfl ?_
        refine t_nil' ?_
        refine hK12 _ _ ?_
        refine c_ret ?_
        refine f_ret1 (v := .bool false) Try.results78 rfl ?_
        exact ⟨by simp [mayB, *], E11⟩
    · -- not .bool o.there
      refine t_skip rfl rfl rfl ?_
      refine t_skip rfl rfl rfl ?_
      refine t_skip rfl rfl rfl ?_
      refine t_skip rfl rfl rfl ?_
      refine t_skip rfl rfl rfl ?_
      refine t_skip rfl rfl rfl ?_
      refine t_skip rfl rfl rfl ?_
      refine t_pick_f rfl rfl rfl rfl ?_
      refine t_move rfl rfl rfl ?_
      refine t_skip rfl rfl rfl ?_
      refine t_skip rfl rfl rfl ?_
      refine t_skip rfl rfl rfl ?_
      refine t_skip rfl rfl rfl ?_
      refine t_skip rfl rfl rfl ?_
      refine t_skip rfl rfl rfl ?_
      refine t_skip rfl rfl rfl ?_
      refine t_pick_f rfl rfl rfl rfl ?_
      refine t_assign rfl rfl rfl ?_
      refine t_nil' ?_
      refine hK12 _ _ ?_
      refine c_ret ?_
      refine f_ret1 (v := .bool false) Try.results78 rfl ?_
      exact ⟨by simp [mayB, *], E11⟩
  · -- not .bool s.there
    refine t_skip rfl rfl rfl ?_
    refine t_skip rfl rfl rfl ?_
    refine t_pick_f rfl rfl rfl rfl ?_
    refine t_move rfl rfl rfl ?_
    refine t_skip rfl rfl rfl ?_
    refine t_skip rfl rfl rfl ?_
    refine t_skip rfl rfl rfl ?_
    refine t_skip rfl rfl rfl ?_
    refine t_skip rfl rfl rfl ?_
    refine t_skip rfl rfl rfl ?_
    refine t_skip rfl rfl rfl ?_
    refine t_pick_f rfl rfl rfl rfl ?_
    refine t_move rfl rfl rfl ?_
    refine t_skip rfl rfl rfl ?_
    refine t_skip rfl rfl rfl ?_
    refine t_skip rfl rfl rfl ?_
    refine t_skip rfl rfl rfl ?_
    refine t_skip rfl rfl rfl ?_
    refine t_skip rfl rfl rfl ?_
    refine t_skip rfl rfl rfl ?_
    refine t_pick_f rfl rfl rfl rfl ?_
    refine t_assign rfl rfl rfl ?_
    refine t_nil' ?_
    refine hK12 _ _ ?_
    refine c_ret ?_
    refine f_ret1 (v := .bool false) Try.results78 rfl ?_
    exact ⟨by simp [mayB, *], E11⟩

theorem must_c (s o : Stay) (w0 : World) :
    CallsV Try.prog 79 [.agg #[.int .i64 s.inn.lo, .int .i64 s.inn.hi, .int .i64 s.out.lo, .int .i64 s.out.hi, .bool s.there], .agg #[.int .i64 o.inn.lo, .int .i64 o.inn.hi, .int .i64 o.out.lo, .int .i64 o.out.hi, .bool o.there]] w0 (fun v w' => v = .bool (mustB s o) ∧ Ext w0 w') := by
  have E0 := Upd.refl (fun _ => False) w0
  refine f_enter (N := 29) Try.func79 rfl rfl rfl ?_
  change WC _ _ _ _ _ _ [(0, .agg #[.int .i64 s.inn.lo, .int .i64 s.inn.hi, .int .i64 s.out.lo, .int .i64 s.out.hi, .bool s.there]), (1, .agg #[.int .i64 o.inn.lo, .int .i64 o.inn.hi, .int .i64 o.out.lo, .int .i64 o.out.hi, .bool o.there])] _
  refine c_seq fun K1 hK1 => ?_
  refine c_region ?_
  refine t_box (cs := [.int .i64 s.inn.lo, .int .i64 s.inn.hi, .int .i64 s.out.lo, .int .i64 s.out.hi, .bool s.there]) rfl rfl rfl rfl (fun bk2 w3 ebk2 sbk2 B4 u5 => ?_)
  have zu5 := u5.size
  have E6 := E0.next u5 (fun _ _ h => h.elim)
  refine t_box (cs := [.int .i64 o.inn.lo, .int .i64 o.inn.hi, .int .i64 o.out.lo, .int .i64 o.out.hi, .bool o.there]) rfl rfl rfl rfl (fun bk7 w8 ebk7 sbk7 B9 u10 => ?_)
  have zu10 := u10.size
  have E11 := E6.next u10 (fun _ _ h => h.elim)
  refine t_assign rfl rfl rfl ?_
  refine t_nil' ?_
  refine hK1 _ _ ?_
  refine c_seq fun K12 hK12 => ?_
  refine c_region ?_
  refine t_field Try.underlying141 rfl Try.sizeOf4 (4) rfl rfl rfl rfl ?_
  have B13 := (B4.keep u10 (fun h => h))
  refine t_load Try.isAgg4 rfl rfl rfl (B13.get rfl) ?_
  refine t_move rfl rfl rfl ?_
  refine t_split 7 rfl (fun g7 => ?_) (fun g7 => ?_)
  · -- .bool s.there
    refine t_field Try.underlying141 rfl Try.sizeOf4 (4) rfl rfl rfl rfl ?_
    refine t_load Try.isAgg4 rfl rfl rfl (B9.get rfl) ?_
    refine t_pick_t rfl rfl rfl rfl ?_
    refine t_move rfl rfl rfl ?_
    refine t_split 11 rfl (fun g11 => ?_) (fun g11 => ?_)
    · -- .bool o.there
      refine t_field Try.underlying141 rfl Try.sizeOf45 (0) rfl rfl rfl rfl ?_
      refine t_field Try.underlying45 rfl Try.sizeOf3 (1) rfl rfl rfl rfl ?_
      refine t_load Try.isAgg3 rfl rfl rfl (B13.get rfl) ?_
      refine t_field Try.underlying141 rfl Try.sizeOf45 (2) rfl rfl rfl rfl ?_
      refine t_field Try.underlying45 rfl Try.sizeOf3 (2) rfl rfl rfl rfl ?_
      refine t_load Try.isAgg3 rfl rfl rfl (B9.get rfl) ?_
      refine t_cmp rfl rfl rfl rfl rfl ?_
      refine t_pick_t rfl rfl rfl rfl ?_
      refine t_move rfl rfl rfl ?_
      refine t_splitp 20 rfl (fun g20 => ?_) (fun g20 => ?_)
      · -- .bool (decide (s.inn.hi ≤ o.out.lo))
        refine t_field Try.underlying141 rfl Try.sizeOf45 (0) rfl rfl rfl rfl ?_
        refine t_field Try.underlying45 rfl Try.sizeOf3 (1) rfl rfl rfl rfl ?_
        refine t_load Try.isAgg3 rfl rfl rfl (B9.get rfl) ?_
        refine t_field Try.underlying141 rfl Try.sizeOf45 (2) rfl rfl rfl rfl ?_
        refine t_field Try.underlying45 rfl Try.sizeOf3 (2) rfl rfl rfl rfl ?_
        refine t_load Try.isAgg3 rfl rfl rfl (B13.get rfl) ?_
        refine t_cmp rfl rfl rfl rfl rfl ?_
        refine t_pick_t rfl rfl rfl rfl ?_
        refine t_assign rfl rfl rfl ?_
        refine t_nil' ?_
        refine hK12 _ _ ?_
        refine c_ret ?_
        refine f_ret1 (v := .bool (decide (o.inn.hi ≤ s.out.lo))) Try.results79 rfl ?_
        exact ⟨by simp [mustB, *], E11⟩
      · -- not .bool (decide (s.inn.hi ≤ o.out.lo))
        refine t_skip rfl rfl rfl ?_
        refine t_skip rfl rfl rfl ?_
        refine t_skip rfl rfl rfl ?_
        refine t_skip rfl rfl rfl ?_
        refine t_skip rfl rfl rfl ?_
        refine t_skip rfl rfl rfl ?_
        refine t_skip rfl rfl rfl ?_
        refine t_pick_f rfl rfl rfl rfl ?_
        refine t_assign rfl rfl rfl ?_
        refine t_nil' ?_
        refine hK12 _ _ ?_
        refine c_ret ?_
        refine f_ret1 (v := .bool false) Try.results79 rfl ?_
        exact ⟨by simp [mustB, *], E11⟩
    · -- not .bool o.there
      refine t_skip rfl rfl rfl ?_
      refine t_skip rfl rfl rfl ?_
      refine t_skip rfl rfl rfl ?_
      refine t_skip rfl rfl rfl ?_
      refine t_skip rfl rfl rfl ?_
      refine t_skip rfl rfl rfl ?_
      refine t_skip rfl rfl rfl ?_
      refine t_pick_f rfl rfl rfl rfl ?_
      refine t_move rfl rfl rfl ?_
      refine t_skip rfl rfl rfl ?_
      refine t_skip rfl rfl rfl ?_
      refine t_skip rfl rfl rfl ?_
      refine t_skip rfl rfl rfl ?_
      refine t_skip rfl rfl rfl ?_
      refine t_skip rfl rfl rfl ?_
      refine t_skip rfl rfl rfl ?_
      refine t_pick_f rfl rfl rfl rfl ?_
      refine t_assign rfl rfl rfl ?_
      refine t_nil' ?_
      refine hK12 _ _ ?_
      refine c_ret ?_
      refine f_ret1 (v := .bool false) Try.results79 rfl ?_
      exact ⟨by simp [mustB, *], E11⟩
  · -- not .bool s.there
    refine t_skip rfl rfl rfl ?_
    refine t_skip rfl rfl rfl ?_
    refine t_pick_f rfl rfl rfl rfl ?_
    refine t_move rfl rfl rfl ?_
    refine t_skip rfl rfl rfl ?_
    refine t_skip rfl rfl rfl ?_
    refine t_skip rfl rfl rfl ?_
    refine t_skip rfl rfl rfl ?_
    refine t_skip rfl rfl rfl ?_
    refine t_skip rfl rfl rfl ?_
    refine t_skip rfl rfl rfl ?_
    refine t_pick_f rfl rfl rfl rfl ?_
    refine t_move rfl rfl rfl ?_
    refine t_skip rfl rfl rfl ?_
    refine t_skip rfl rfl rfl ?_
    refine t_skip rfl rfl rfl ?_
    refine t_skip rfl rfl rfl ?_
    refine t_skip rfl rfl rfl ?_
    refine t_skip rfl rfl rfl ?_
    refine t_skip rfl rfl rfl ?_
    refine t_pick_f rfl rfl rfl rfl ?_
    refine t_assign rfl rfl rfl ?_
    refine t_nil' ?_
    refine hK12 _ _ ?_
    refine c_ret ?_
    refine f_ret1 (v := .bool false) Try.results79 rfl ?_
    exact ⟨by simp [mustB, *], E11⟩

theorem Meet_c (a : Voy) (ao1 : Option Addr) (b1 o1 cap1 : Nat) (b : Voy) (ao2 : Option Addr) (b2 o2 cap2 : Nat) (n : Nar) (w0 : World) (hs1 : Sl encRun 6 w0 ao1 b1 o1 a.runs) (hs2 : Sl encRun 6 w0 ao2 b2 o2 b.runs) (hl1 : a.runs.length ≤ 1000000) (hl2 : b.runs.length ≤ 1000000) :
    CallsV Try.prog 41 [.agg #[.int .i64 a.st.lo, .int .i64 a.st.hi, .slice ao1 ((a.runs).length) cap1, .int .i64 a.len, .int .i64 a.wid], .agg #[.int .i64 b.st.lo, .int .i64 b.st.hi, .slice ao2 ((b.runs).length) cap2, .int .i64 b.len, .int .i64 b.wid], .agg #[.int .i64 n.frm, .int .i64 n.to, .int .i64 n.wid, .bool n.single]] w0 (fun x w' => x = .tuple #[.bool (MeetOk a b n && mayB (thrS a n) (thrS b n)), .bool (MeetOk a b n && mustB (thrS a n) (thrS b n)), .int .i64 (MeetE a b n)] ∧ Ext w0 w') := by
  have E0 := Upd.refl (fun _ => False) w0
  refine f_enter (N := 48) Try.func41 rfl rfl rfl ?_
  change WC _ _ _ _ _ _ [(0, .agg #[.int .i64 a.st.lo, .int .i64 a.st.hi, .slice ao1 ((a.runs).length) cap1, .int .i64 a.len, .int .i64 a.wid]), (1, .agg #[.int .i64 b.st.lo, .int .i64 b.st.hi, .slice ao2 ((b.runs).length) cap2, .int .i64 b.len, .int .i64 b.wid]), (2, .agg #[.int .i64 n.frm, .int .i64 n.to, .int .i64 n.wid, .bool n.single])] _
  refine c_seq fun K1 hK1 => ?_
  refine c_region ?_
  refine t_box (cs := [.int .i64 a.st.lo, .int .i64 a.st.hi, .slice ao1 ((a.runs).length) cap1, .int .i64 a.len, .int .i64 a.wid]) rfl rfl rfl rfl (fun bk2 w3 ebk2 sbk2 B4 u5 => ?_)
  have zu5 := u5.size
  have E6 := E0.next u5 (fun _ _ h => h.elim)
  refine t_box (cs := [.int .i64 b.st.lo, .int .i64 b.st.hi, .slice ao2 ((b.runs).length) cap2, .int .i64 b.len, .int .i64 b.wid]) rfl rfl rfl rfl (fun bk7 w8 ebk7 sbk7 B9 u10 => ?_)
  have zu10 := u10.size
  have E11 := E6.next u10 (fun _ _ h => h.elim)
  refine t_box (cs := [.int .i64 n.frm, .int .i64 n.to, .int .i64 n.wid, .bool n.single]) rfl rfl rfl rfl (fun bk12 w13 ebk12 sbk12 B14 u15 => ?_)
  have zu15 := u15.size
  have E16 := E11.next u15 (fun _ _ h => h.elim)
  refine t_assign rfl rfl rfl ?_
  refine t_assign rfl rfl rfl ?_
  refine t_assign rfl rfl rfl ?_
  refine t_nil' ?_
  refine hK1 _ _ ?_
  refine c_seq fun K17 hK17 => ?_
  refine c_seq fun K18 hK18 => ?_
  refine c_region ?_
  have B19 := ((B4.keep u10 (fun h => h)).keep u15 (fun h => h))
  refine t_loadN (vs := [.int .i64 a.st.lo, .int .i64 a.st.hi, .slice ao1 ((a.runs).length) cap1, .int .i64 a.len, .int .i64 a.wid]) Try.isAgg48 Try.sizeOf48 rfl rfl rfl (B19.at.sub 0 5) rfl ?_
  refine t_call (vs := [.agg #[.int .i64 a.st.lo, .int .i64 a.st.hi, .slice ao1 ((a.runs).length) cap1, .int .i64 a.len, .int .i64 a.wid]]) own29 rfl rfl rfl rfl (Check_c a ao1 b1 o1 cap1 _ (hs1.keep E16 (fun _ h => h)) (by omega)) (fun v20 w21 r23 => ?_)
  obtain ⟨rfl, u22⟩ := r23
  have zu22 := u22.size
  have E24 := E16.next u22 (fun _ _ h => h.elim)
  refine t_cmp rfl rfl rfl rfl rfl ?_
  refine t_move rfl rfl rfl ?_
  refine t_splitp 14 rfl (fun g14 => ?_) (fun g14 => ?_)
  · -- .bool (decide ((chk a) ≠ 0))
    refine t_skip rfl rfl rfl ?_
    refine t_skip rfl rfl rfl ?_
    refine t_skip rfl rfl rfl ?_
    refine t_pick_t rfl rfl rfl rfl ?_
    refine t_move rfl rfl rfl ?_
    refine t_skip rfl rfl rfl ?_
    refine t_skip rfl rfl rfl ?_
    refine t_skip rfl rfl rfl ?_
    refine t_pick_t rfl rfl rfl rfl ?_
    refine t_nil' ?_
    refine hK18 _ _ ?_
    refine c_cond_t rfl ?_
    refine c_seq fun K25 hK25 => ?_
    refine c_region ?_
    refine t_assign rfl rfl rfl ?_
    refine t_assign rfl rfl rfl ?_
    refine t_assign rfl rfl rfl ?_
    refine t_nil' ?_
    refine hK25 _ _ ?_
    refine c_ret ?_
    refine f_ret3 (v1 := .bool false) (v2 := .bool false) (v3 := .int .i64 2) Try.results41 rfl rfl rfl ?_
    exact ⟨by (try have hb1 := okVoy_bad g14); (try have hb2 := okVoy_bad g19); simp_all [MeetE, MeetOk], E24⟩
  · -- not .bool (decide ((chk a) ≠ 0))
    have B26 := ((B9.keep u15 (fun h => h)).keep u22 (fun h => h))
    refine t_loadN (vs := [.int .i64 b.st.lo, .int .i64 b.st.hi, .slice ao2 ((b.runs).length) cap2, .int .i64 b.len, .int .i64 b.wid]) Try.isAgg48 Try.sizeOf48 rfl rfl rfl (B26.at.sub 0 5) rfl ?_
    refine t_call (vs := [.agg #[.int .i64 b.st.lo, .int .i64 b.st.hi, .slice ao2 ((b.runs).length) cap2, .int .i64 b.len, .int .i64 b.wid]]) own29 rfl rfl rfl rfl (Check_c b ao2 b2 o2 cap2 _ (hs2.keep E24 (fun _ h => h)) (by omega)) (fun v27 w28 r30 => ?_)
    obtain ⟨rfl, u29⟩ := r30
    have zu29 := u29.size
    have E31 := E24.next u29 (fun _ _ h => h.elim)
    refine t_cmp rfl rfl rfl rfl rfl ?_
    refine t_pick_f rfl rfl rfl rfl ?_
    refine t_move rfl rfl rfl ?_
    refine t_splitp 19 rfl (fun g19 => ?_) (fun g19 => ?_)
    · -- .bool (decide ((chk b) ≠ 0))
      refine t_skip rfl rfl rfl ?_
      refine t_skip rfl rfl rfl ?_
      refine t_skip rfl rfl rfl ?_
      refine t_pick_t rfl rfl rfl rfl ?_
      refine t_nil' ?_
      refine hK18 _ _ ?_
      refine c_cond_t rfl ?_
      refine c_seq fun K32 hK32 => ?_
      refine c_region ?_
      refine t_assign rfl rfl rfl ?_
      refine t_assign rfl rfl rfl ?_
      refine t_assign rfl rfl rfl ?_
      refine t_nil' ?_
      refine hK32 _ _ ?_
      refine c_ret ?_
      refine f_ret3 (v1 := .bool false) (v2 := .bool false) (v3 := .int .i64 2) Try.results41 rfl rfl rfl ?_
      exact ⟨by (try have hb1 := okVoy_bad g14); (try have hb2 := okVoy_bad g19); simp_all [MeetE, MeetOk], E31⟩
    · -- not .bool (decide ((chk b) ≠ 0))
      have B33 := ((B14.keep u22 (fun h => h)).keep u29 (fun h => h))
      refine t_loadN (vs := [.int .i64 n.frm, .int .i64 n.to, .int .i64 n.wid, .bool n.single]) Try.isAgg72 Try.sizeOf72 rfl rfl rfl (B33.at.sub 0 4) rfl ?_
      refine t_call (vs := [.agg #[.int .i64 n.frm, .int .i64 n.to, .int .i64 n.wid, .bool n.single]]) own76 rfl rfl rfl rfl (isNarrow_c n _) (fun v34 w35 r37 => ?_)
      obtain ⟨rfl, u36⟩ := r37
      have zu36 := u36.size
      have E38 := E31.next u36 (fun _ _ h => h.elim)
      refine t_not rfl rfl rfl ?_
      refine t_pick_f rfl rfl rfl rfl ?_
      refine t_nil' ?_
      refine hK18 _ _ ?_
      refine c_cond rfl (fun g23 => ?_) (fun g23 => ?_)
      · -- .bool (!(okNar n))
        refine c_seq fun K39 hK39 => ?_
        refine c_region ?_
        refine t_assign rfl rfl rfl ?_
        refine t_assign rfl rfl rfl ?_
        refine t_assign rfl rfl rfl ?_
        refine t_nil' ?_
        refine hK39 _ _ ?_
        refine c_ret ?_
        refine f_ret3 (v1 := .bool false) (v2 := .bool false) (v3 := .int .i64 2) Try.results41 rfl rfl rfl ?_
        exact ⟨by (try have hb1 := okVoy_bad g14); (try have hb2 := okVoy_bad g19); simp_all [MeetE, MeetOk], E38⟩
      · -- not .bool (!(okNar n))
        refine c_skip ?_
        refine hK17 _ _ ?_
        refine c_seq fun K40 hK40 => ?_
        refine c_region ?_
        have hk1 := okVoy_of g14
        have hv1 := okVoy_rng hk1
        have hk2 := okVoy_of g19
        have hv2 := okVoy_rng hk2
        have hm : okNar n = true := by simpa using g23
        have hn := okNar_rng hm
        have B41 := (((B19.keep u22 (fun h => h)).keep u29 (fun h => h)).keep u36 (fun h => h))
        refine t_loadN (vs := [.int .i64 a.st.lo, .int .i64 a.st.hi, .slice ao1 ((a.runs).length) cap1, .int .i64 a.len, .int .i64 a.wid]) Try.isAgg48 Try.sizeOf48 rfl rfl rfl (B41.at.sub 0 5) rfl ?_
        have B42 := (B33.keep u36 (fun h => h))
        refine t_loadN (vs := [.int .i64 n.frm, .int .i64 n.to, .int .i64 n.wid, .bool n.single]) Try.isAgg72 Try.sizeOf72 rfl rfl rfl (B42.at.sub 0 4) rfl ?_
        refine t_call (vs := [.agg #[.int .i64 a.st.lo, .int .i64 a.st.hi, .slice ao1 ((a.runs).length) cap1, .int .i64 a.len, .int .i64 a.wid], .agg #[.int .i64 n.frm, .int .i64 n.to, .int .i64 n.wid, .bool n.single]]) own77 rfl rfl rfl rfl (through_c a ao1 b1 o1 cap1 n _ (hs1.keep E38 (fun _ h => h)) hv1 hn) (fun v43 w44 r46 => ?_)
        obtain ⟨rfl, u45⟩ := r46
        have zu45 := u45.size
        have E47 := E38.next u45 (fun _ _ h => h.elim)
        refine t_move rfl rfl rfl ?_
        refine t_extract (vs := [.agg #[.int .i64 ((thrS a n).inn.lo), .int .i64 ((thrS a n).inn.hi), .int .i64 ((thrS a n).out.lo), .int .i64 ((thrS a n).out.hi), .bool ((thrS a n).there)], .int .i64 (thrE a n)]) rfl rfl rfl rfl ?_
        refine t_extract (vs := [.agg #[.int .i64 ((thrS a n).inn.lo), .int .i64 ((thrS a n).inn.hi), .int .i64 ((thrS a n).out.lo), .int .i64 ((thrS a n).out.hi), .bool ((thrS a n).there)], .int .i64 (thrE a n)]) rfl rfl rfl rfl ?_
        refine t_alloc (cs := [.int .i64 0, .int .i64 0, .int .i64 0, .int .i64 0, .bool false]) Try.zeroValue141 rfl rfl rfl (fun bk48 w49 ebk48 sbk48 B50 u51 => ?_)
        have zu51 := u51.size
        have E52 := E47.next u51 (fun _ _ h => h.elim)
        refine t_store (vs := [.int .i64 ((thrS a n).inn.lo), .int .i64 ((thrS a n).inn.hi), .int .i64 ((thrS a n).out.lo), .int .i64 ((thrS a n).out.hi), .bool ((thrS a n).there)]) Try.sizeOf141 rfl rfl rfl B50 rfl rfl (Nat.le_of_ble_eq_true rfl) (by simp [Value.oneCell']) (fun w53 sw53 B55 u54 => ?_)
        have zu54 := u54.size
        have E56 := E52.next u54 (fun i hi (h : i = bk48) => show False by first | omega | assumption)
        have B55 : Blk w53 bk48 141 [.int .i64 ((thrS a n).inn.lo), .int .i64 ((thrS a n).inn.hi), .int .i64 ((thrS a n).out.lo), .int .i64 ((thrS a n).out.hi), .bool ((thrS a n).there)] := B55
        refine t_assign rfl rfl rfl ?_
        refine t_nil' ?_
        refine hK40 _ _ ?_
        refine c_seq fun K57 hK57 => ?_
        refine c_seq fun K58 hK58 => ?_
        refine c_region ?_
        refine t_move rfl rfl rfl ?_
        refine t_cmp rfl rfl rfl rfl rfl ?_
        refine t_nil' ?_
        refine hK58 _ _ ?_
        refine c_condp rfl (fun g31 => ?_) (fun g31 => ?_)
        · -- .bool (decide ((thrE a n) ≠ 0))
          refine c_seq fun K59 hK59 => ?_
          refine c_region ?_
          refine t_move rfl rfl rfl ?_
          refine t_assign rfl rfl rfl ?_
          refine t_assign rfl rfl rfl ?_
          refine t_assign rfl rfl rfl ?_
          refine t_nil' ?_
          refine hK59 _ _ ?_
          refine c_ret ?_
          refine f_ret3 (v1 := .bool false) (v2 := .bool false) (v3 := .int .i64 (thrE a n)) Try.results41 rfl rfl rfl ?_
          exact ⟨by (try have hb1 := okVoy_bad g14); (try have hb2 := okVoy_bad g19); simp_all [MeetE, MeetOk], E56⟩
        · -- not .bool (decide ((thrE a n) ≠ 0))
          refine c_skip ?_
          refine hK57 _ _ ?_
          refine c_seq fun K60 hK60 => ?_
          refine c_region ?_
          have B61 := (((((B26.keep u29 (fun h => h)).keep u36 (fun h => h)).keep u45 (fun h => h)).keep u51 (fun h => h)).keep u54 (show ¬ (bk7 = bk48) by first | omega | assumption))
          refine t_loadN (vs := [.int .i64 b.st.lo, .int .i64 b.st.hi, .slice ao2 ((b.runs).length) cap2, .int .i64 b.len, .int .i64 b.wid]) Try.isAgg48 Try.sizeOf48 rfl rfl rfl (B61.at.sub 0 5) rfl ?_
          have B62 := (((B42.keep u45 (fun h => h)).keep u51 (fun h => h)).keep u54 (show ¬ (bk12 = bk48) by first | omega | assumption))
          refine t_loadN (vs := [.int .i64 n.frm, .int .i64 n.to, .int .i64 n.wid, .bool n.single]) Try.isAgg72 Try.sizeOf72 rfl rfl rfl (B62.at.sub 0 4) rfl ?_
          refine t_call (vs := [.agg #[.int .i64 b.st.lo, .int .i64 b.st.hi, .slice ao2 ((b.runs).length) cap2, .int .i64 b.len, .int .i64 b.wid], .agg #[.int .i64 n.frm, .int .i64 n.to, .int .i64 n.wid, .bool n.single]]) own77 rfl rfl rfl rfl (through_c b ao2 b2 o2 cap2 n _ (hs2.keep E56 (fun _ h => h)) hv2 hn) (fun v63 w64 r66 => ?_)
          obtain ⟨rfl, u65⟩ := r66
          have zu65 := u65.size
          have E67 := E56.next u65 (fun _ _ h => h.elim)
          refine t_move rfl rfl rfl ?_
          refine t_extract (vs := [.agg #[.int .i64 ((thrS b n).inn.lo), .int .i64 ((thrS b n).inn.hi), .int .i64 ((thrS b n).out.lo), .int .i64 ((thrS b n).out.hi), .bool ((thrS b n).there)], .int .i64 (thrE b n)]) rfl rfl rfl rfl ?_
          refine t_extract (vs := [.agg #[.int .i64 ((thrS b n).inn.lo), .int .i64 ((thrS b n).inn.hi), .int .i64 ((thrS b n).out.lo), .int .i64 ((thrS b n).out.hi), .bool ((thrS b n).there)], .int .i64 (thrE b n)]) rfl rfl rfl rfl ?_
          refine t_alloc (cs := [.int .i64 0, .int .i64 0, .int .i64 0, .int .i64 0, .bool false]) Try.zeroValue141 rfl rfl rfl (fun bk68 w69 ebk68 sbk68 B70 u71 => ?_)
          have zu71 := u71.size
          have E72 := E67.next u71 (fun _ _ h => h.elim)
          refine t_store (vs := [.int .i64 ((thrS b n).inn.lo), .int .i64 ((thrS b n).inn.hi), .int .i64 ((thrS b n).out.lo), .int .i64 ((thrS b n).out.hi), .bool ((thrS b n).there)]) Try.sizeOf141 rfl rfl rfl B70 rfl rfl (Nat.le_of_ble_eq_true rfl) (by simp [Value.oneCell']) (fun w73 sw73 B75 u74 => ?_)
          have zu74 := u74.size
          have E76 := E72.next u74 (fun i hi (h : i = bk68) => show False by first | omega | assumption)
          have B75 : Blk w73 bk68 141 [.int .i64 ((thrS b n).inn.lo), .int .i64 ((thrS b n).inn.hi), .int .i64 ((thrS b n).out.lo), .int .i64 ((thrS b n).out.hi), .bool ((thrS b n).there)] := B75
          refine t_assign rfl rfl rfl ?_
          refine t_nil' ?_
          refine hK60 _ _ ?_
          refine c_seq fun K77 hK77 => ?_
          refine c_seq fun K78 hK78 => ?_
          refine c_region ?_
          refine t_move rfl rfl rfl ?_
          refine t_cmp rfl rfl rfl rfl rfl ?_
          refine t_nil' ?_
          refine hK78 _ _ ?_
          refine c_condp rfl (fun g40 => ?_) (fun g40 => ?_)
          · -- .bool (decide ((thrE b n) ≠ 0))
            refine c_seq fun K79 hK79 => ?_
            refine c_region ?_
            refine t_move rfl rfl rfl ?_
            refine t_assign rfl rfl rfl ?_
            refine t_assign rfl rfl rfl ?_
            refine t_assign rfl rfl rfl ?_
            refine t_nil' ?_
            refine hK79 _ _ ?_
            refine c_ret ?_
            refine f_ret3 (v1 := .bool false) (v2 := .bool false) (v3 := .int .i64 (thrE b n)) Try.results41 rfl rfl rfl ?_
            exact ⟨by (try have hb1 := okVoy_bad g14); (try have hb2 := okVoy_bad g19); simp_all [MeetE, MeetOk], E76⟩
          · -- not .bool (decide ((thrE b n) ≠ 0))
            refine c_skip ?_
            refine hK77 _ _ ?_
            refine c_seq fun K80 hK80 => ?_
            refine WC.weak [(0, .agg #[.int .i64 a.st.lo, .int .i64 a.st.hi, .slice ao1 ((a.runs).length) cap1, .int .i64 a.len, .int .i64 a.wid]), (1, .agg #[.int .i64 b.st.lo, .int .i64 b.st.hi, .slice ao2 ((b.runs).length) cap2, .int .i64 b.len, .int .i64 b.wid]), (2, .agg #[.int .i64 n.frm, .int .i64 n.to, .int .i64 n.wid, .bool n.single]), (3, .pointer (some ⟨bk2, 0, none⟩)), (4, .pointer (some ⟨bk7, 0, none⟩)), (5, .pointer (some ⟨bk12, 0, none⟩)), (6, .bool false), (7, .bool false), (8, .int .i64 (thrE b n)), (9, .pointer (some ⟨bk48, 0, none⟩)), (10, .pointer (some ⟨bk68, 0, none⟩)), (11, .agg #[.int .i64 a.st.lo, .int .i64 a.st.hi, .slice ao1 ((a.runs).length) cap1, .int .i64 a.len, .int .i64 a.wid]), (12, .int .i64 (chk a)), (13, .bool (decide ((chk a) ≠ 0))), (14, .bool false), (15, .agg #[.int .i64 b.st.lo, .int .i64 b.st.hi, .slice ao2 ((b.runs).length) cap2, .int .i64 b.len, .int .i64 b.wid]), (16, .int .i64 (chk b)), (17, .bool (decide ((chk b) ≠ 0))), (18, .bool (decide ((chk b) ≠ 0))), (19, .bool false), (20, .agg #[.int .i64 n.frm, .int .i64 n.to, .int .i64 n.wid, .bool n.single]), (21, .bool (okNar n)), (22, .bool (!(okNar n))), (23, .bool (!(okNar n))), (24, .tuple #[.agg #[.int .i64 ((thrS a n).inn.lo), .int .i64 ((thrS a n).inn.hi), .int .i64 ((thrS a n).out.lo), .int .i64 ((thrS a n).out.hi), .bool ((thrS a n).there)], .int .i64 (thrE a n)]), (25, .agg #[.int .i64 a.st.lo, .int .i64 a.st.hi, .slice ao1 ((a.runs).length) cap1, .int .i64 a.len, .int .i64 a.wid]), (26, .agg #[.int .i64 n.frm, .int .i64 n.to, .int .i64 n.wid, .bool n.single]), (27, .tuple #[.agg #[.int .i64 ((thrS a n).inn.lo), .int .i64 ((thrS a n).inn.hi), .int .i64 ((thrS a n).out.lo), .int .i64 ((thrS a n).out.hi), .bool ((thrS a n).there)], .int .i64 (thrE a n)]), (28, .agg #[.int .i64 ((thrS a n).inn.lo), .int .i64 ((thrS a n).inn.hi), .int .i64 ((thrS a n).out.lo), .int .i64 ((thrS a n).out.hi), .bool ((thrS a n).there)]), (29, .int .i64 (thrE a n)), (30, .int .i64 (thrE a n)), (31, .bool (decide ((thrE a n) ≠ 0))), (33, .tuple #[.agg #[.int .i64 ((thrS b n).inn.lo), .int .i64 ((thrS b n).inn.hi), .int .i64 ((thrS b n).out.lo), .int .i64 ((thrS b n).out.hi), .bool ((thrS b n).there)], .int .i64 (thrE b n)]), (34, .agg #[.int .i64 b.st.lo, .int .i64 b.st.hi, .slice ao2 ((b.runs).length) cap2, .int .i64 b.len, .int .i64 b.wid]), (35, .agg #[.int .i64 n.frm, .int .i64 n.to, .int .i64 n.wid, .bool n.single]), (36, .tuple #[.agg #[.int .i64 ((thrS b n).inn.lo), .int .i64 ((thrS b n).inn.hi), .int .i64 ((thrS b n).out.lo), .int .i64 ((thrS b n).out.hi), .bool ((thrS b n).there)], .int .i64 (thrE b n)]), (37, .agg #[.int .i64 ((thrS b n).inn.lo), .int .i64 ((thrS b n).inn.hi), .int .i64 ((thrS b n).out.lo), .int .i64 ((thrS b n).out.hi), .bool ((thrS b n).there)]), (38, .int .i64 (thrE b n)), (39, .int .i64 (thrE b n)), (40, .bool (decide ((thrE b n) ≠ 0)))] ⟨rfl, rfl, rfl, rfl, rfl, rfl, rfl, rfl, rfl, rfl, rfl, rfl, rfl, rfl, rfl, rfl, rfl, rfl, rfl, rfl, rfl, rfl, rfl, rfl, rfl, rfl, rfl, rfl, rfl, rfl, rfl, rfl, rfl, rfl, rfl, rfl, rfl, rfl, rfl, rfl, trivial⟩ ?_
            refine c_drawn follows 9 [some (42, some (.agg #[.int .i64 ((thrS a n).inn.lo), .int .i64 ((thrS a n).inn.hi), .int .i64 ((thrS a n).out.lo), .int .i64 ((thrS a n).out.hi), .bool ((thrS a n).there)])), some (43, some (.agg #[.int .i64 ((thrS b n).inn.lo), .int .i64 ((thrS b n).inn.hi), .int .i64 ((thrS b n).out.lo), .int .i64 ((thrS b n).out.hi), .bool ((thrS b n).there)])), some (44, some (.bool (mayB (thrS a n) (thrS b n)))), some (45, some (.agg #[.int .i64 ((thrS a n).inn.lo), .int .i64 ((thrS a n).inn.hi), .int .i64 ((thrS a n).out.lo), .int .i64 ((thrS a n).out.hi), .bool ((thrS a n).there)])), some (46, some (.agg #[.int .i64 ((thrS b n).inn.lo), .int .i64 ((thrS b n).inn.hi), .int .i64 ((thrS b n).out.lo), .int .i64 ((thrS b n).out.hi), .bool ((thrS b n).there)])), some (47, some (.bool (mustB (thrS a n) (thrS b n)))), some (6, some (.bool (mayB (thrS a n) (thrS b n)))), some (7, some (.bool (mustB (thrS a n) (thrS b n)))), some (8, some (.int .i64 0))] [[], [], [0, 1], [], [], [3, 4, 2], [2, 5, 0, 1, 2], [5, 6, 0, 1, 2, 3, 4, 5, 6], [7, 0, 1, 2, 3, 4, 5, 6, 7]] (fun _ _ w => Upd (fun _ => False) w73 w) rfl rfl rfl (by kernel_rfl) (by kernel_rfl) (Upd.drew _).to ⟨?_, ?_, ?_, ?_, ?_, ?_, ?_, ?_, ?_, trivial⟩ ?_
            · -- 0
              intro D ρ w94 hcD hnD hdD hW
              have zhW := hW.size
              have E96 := E76.next hW (fun _ _ h => h.elim)
              refine ⟨[(9, .pointer (some ⟨bk48, 0, none⟩))], ⟨.inr ⟨rfl, rfl⟩, trivial⟩, fun Lr => ?_⟩
              show WL _ _ _ _ _ _ _ ((9, .pointer (some ⟨bk48, 0, none⟩)) :: Lr) _
              have B97 := ((((B55.keep u65 (fun h => h)).keep u71 (fun h => h)).keep u74 (show ¬ (bk48 = bk68) by first | omega | assumption)).keep hW (fun h => h))
              refine t_loadN (vs := [.int .i64 ((thrS a n).inn.lo), .int .i64 ((thrS a n).inn.hi), .int .i64 ((thrS a n).out.lo), .int .i64 ((thrS a n).out.hi), .bool ((thrS a n).there)]) Try.isAgg141 Try.sizeOf141 rfl rfl rfl (B97.at.sub 0 5) rfl ?_
              refine t_nil' ?_
              exact fun a ha => ⟨rfl, _, (fun v' h => by cases h; rfl), ha, hW⟩
            · -- 1
              intro D ρ w98 hcD hnD hdD hW
              have zhW := hW.size
              have E100 := E76.next hW (fun _ _ h => h.elim)
              refine ⟨[(10, .pointer (some ⟨bk68, 0, none⟩))], ⟨.inr ⟨rfl, rfl⟩, trivial⟩, fun Lr => ?_⟩
              show WL _ _ _ _ _ _ _ ((10, .pointer (some ⟨bk68, 0, none⟩)) :: Lr) _
              have B101 := (B75.keep hW (fun h => h))
              refine t_loadN (vs := [.int .i64 ((thrS b n).inn.lo), .int .i64 ((thrS b n).inn.hi), .int .i64 ((thrS b n).out.lo), .int .i64 ((thrS b n).out.hi), .bool ((thrS b n).there)]) Try.isAgg141 Try.sizeOf141 rfl rfl rfl (B101.at.sub 0 5) rfl ?_
              refine t_nil' ?_
              exact fun a ha => ⟨rfl, _, (fun v' h => by cases h; rfl), ha, hW⟩
            · -- 2
              intro D ρ w102 hcD hnD hdD hW
              have zhW := hW.size
              have E104 := E76.next hW (fun _ _ h => h.elim)
              refine ⟨[(42, .agg #[.int .i64 ((thrS a n).inn.lo), .int .i64 ((thrS a n).inn.hi), .int .i64 ((thrS a n).out.lo), .int .i64 ((thrS a n).out.hi), .bool ((thrS a n).there)]), (43, .agg #[.int .i64 ((thrS b n).inn.lo), .int .i64 ((thrS b n).inn.hi), .int .i64 ((thrS b n).out.lo), .int .i64 ((thrS b n).out.hi), .bool ((thrS b n).there)])], ⟨.inl ⟨0, some (.agg #[.int .i64 ((thrS a n).inn.lo), .int .i64 ((thrS a n).inn.hi), .int .i64 ((thrS a n).out.lo), .int .i64 ((thrS a n).out.hi), .bool ((thrS a n).there)]), rfl, rfl, rfl⟩, .inl ⟨1, some (.agg #[.int .i64 ((thrS b n).inn.lo), .int .i64 ((thrS b n).inn.hi), .int .i64 ((thrS b n).out.lo), .int .i64 ((thrS b n).out.hi), .bool ((thrS b n).there)]), rfl, rfl, rfl⟩, trivial⟩, fun Lr => ?_⟩
              show WL _ _ _ _ _ _ _ ((42, .agg #[.int .i64 ((thrS a n).inn.lo), .int .i64 ((thrS a n).inn.hi), .int .i64 ((thrS a n).out.lo), .int .i64 ((thrS a n).out.hi), .bool ((thrS a n).there)]) :: (43, .agg #[.int .i64 ((thrS b n).inn.lo), .int .i64 ((thrS b n).inn.hi), .int .i64 ((thrS b n).out.lo), .int .i64 ((thrS b n).out.hi), .bool ((thrS b n).there)]) :: Lr) _
              refine t_call (vs := [.agg #[.int .i64 ((thrS a n).inn.lo), .int .i64 ((thrS a n).inn.hi), .int .i64 ((thrS a n).out.lo), .int .i64 ((thrS a n).out.hi), .bool ((thrS a n).there)], .agg #[.int .i64 ((thrS b n).inn.lo), .int .i64 ((thrS b n).inn.hi), .int .i64 ((thrS b n).out.lo), .int .i64 ((thrS b n).out.hi), .bool ((thrS b n).there)]]) own78 rfl rfl rfl rfl (may_c (thrS a n) (thrS b n) _) (fun v105 w106 r108 => ?_)
              obtain ⟨rfl, u107⟩ := r108
              have zu107 := u107.size
              have E109 := E104.next u107 (fun _ _ h => h.elim)
              refine t_nil' ?_
              exact fun a ha => ⟨rfl, _, (fun v' h => by cases h; rfl), ha, (hW.next u107 (fun _ _ h => h.elim))⟩
            · -- 3
              intro D ρ w110 hcD hnD hdD hW
              have zhW := hW.size
              have E112 := E76.next hW (fun _ _ h => h.elim)
              refine ⟨[(9, .pointer (some ⟨bk48, 0, none⟩))], ⟨.inr ⟨rfl, rfl⟩, trivial⟩, fun Lr => ?_⟩
              show WL _ _ _ _ _ _ _ ((9, .pointer (some ⟨bk48, 0, none⟩)) :: Lr) _
              have B113 := ((((B55.keep u65 (fun h => h)).keep u71 (fun h => h)).keep u74 (show ¬ (bk48 = bk68) by first | omega | assumption)).keep hW (fun h => h))
              refine t_loadN (vs := [.int .i64 ((thrS a n).inn.lo), .int .i64 ((thrS a n).inn.hi), .int .i64 ((thrS a n).out.lo), .int .i64 ((thrS a n).out.hi), .bool ((thrS a n).there)]) Try.isAgg141 Try.sizeOf141 rfl rfl rfl (B113.at.sub 0 5) rfl ?_
              refine t_nil' ?_
              exact fun a ha => ⟨rfl, _, (fun v' h => by cases h; rfl), ha, hW⟩
            · -- 4
              intro D ρ w114 hcD hnD hdD hW
              have zhW := hW.size
              have E116 := E76.next hW (fun _ _ h => h.elim)
              refine ⟨[(10, .pointer (some ⟨bk68, 0, none⟩))], ⟨.inr ⟨rfl, rfl⟩, trivial⟩, fun Lr => ?_⟩
              show WL _ _ _ _ _ _ _ ((10, .pointer (some ⟨bk68, 0, none⟩)) :: Lr) _
              have B117 := (B75.keep hW (fun h => h))
              refine t_loadN (vs := [.int .i64 ((thrS b n).inn.lo), .int .i64 ((thrS b n).inn.hi), .int .i64 ((thrS b n).out.lo), .int .i64 ((thrS b n).out.hi), .bool ((thrS b n).there)]) Try.isAgg141 Try.sizeOf141 rfl rfl rfl (B117.at.sub 0 5) rfl ?_
              refine t_nil' ?_
              exact fun a ha => ⟨rfl, _, (fun v' h => by cases h; rfl), ha, hW⟩
            · -- 5
              intro D ρ w118 hcD hnD hdD hW
              have zhW := hW.size
              have E120 := E76.next hW (fun _ _ h => h.elim)
              refine ⟨[(45, .agg #[.int .i64 ((thrS a n).inn.lo), .int .i64 ((thrS a n).inn.hi), .int .i64 ((thrS a n).out.lo), .int .i64 ((thrS a n).out.hi), .bool ((thrS a n).there)]), (46, .agg #[.int .i64 ((thrS b n).inn.lo), .int .i64 ((thrS b n).inn.hi), .int .i64 ((thrS b n).out.lo), .int .i64 ((thrS b n).out.hi), .bool ((thrS b n).there)])], ⟨.inl ⟨3, some (.agg #[.int .i64 ((thrS a n).inn.lo), .int .i64 ((thrS a n).inn.hi), .int .i64 ((thrS a n).out.lo), .int .i64 ((thrS a n).out.hi), .bool ((thrS a n).there)]), rfl, rfl, rfl⟩, .inl ⟨4, some (.agg #[.int .i64 ((thrS b n).inn.lo), .int .i64 ((thrS b n).inn.hi), .int .i64 ((thrS b n).out.lo), .int .i64 ((thrS b n).out.hi), .bool ((thrS b n).there)]), rfl, rfl, rfl⟩, trivial⟩, fun Lr => ?_⟩
              show WL _ _ _ _ _ _ _ ((45, .agg #[.int .i64 ((thrS a n).inn.lo), .int .i64 ((thrS a n).inn.hi), .int .i64 ((thrS a n).out.lo), .int .i64 ((thrS a n).out.hi), .bool ((thrS a n).there)]) :: (46, .agg #[.int .i64 ((thrS b n).inn.lo), .int .i64 ((thrS b n).inn.hi), .int .i64 ((thrS b n).out.lo), .int .i64 ((thrS b n).out.hi), .bool ((thrS b n).there)]) :: Lr) _
              refine t_call (vs := [.agg #[.int .i64 ((thrS a n).inn.lo), .int .i64 ((thrS a n).inn.hi), .int .i64 ((thrS a n).out.lo), .int .i64 ((thrS a n).out.hi), .bool ((thrS a n).there)], .agg #[.int .i64 ((thrS b n).inn.lo), .int .i64 ((thrS b n).inn.hi), .int .i64 ((thrS b n).out.lo), .int .i64 ((thrS b n).out.hi), .bool ((thrS b n).there)]]) own79 rfl rfl rfl rfl (must_c (thrS a n) (thrS b n) _) (fun v121 w122 r124 => ?_)
              obtain ⟨rfl, u123⟩ := r124
              have zu123 := u123.size
              have E125 := E120.next u123 (fun _ _ h => h.elim)
              refine t_nil' ?_
              exact fun a ha => ⟨rfl, _, (fun v' h => by cases h; rfl), ha, (hW.next u123 (fun _ _ h => h.elim))⟩
            · exact fun D ρ w hcD hnD hdD hW => ⟨[(44, .bool (mayB (thrS a n) (thrS b n)))], ⟨.inl ⟨2, some (.bool (mayB (thrS a n) (thrS b n))), rfl, rfl, rfl⟩, trivial⟩, fun Lr => t_assign rfl rfl rfl (t_nil' fun a ha => ⟨rfl, _, (fun v' h => by cases h; rfl), ha, hW⟩)⟩
            · exact fun D ρ w hcD hnD hdD hW => ⟨[(47, .bool (mustB (thrS a n) (thrS b n)))], ⟨.inl ⟨5, some (.bool (mustB (thrS a n) (thrS b n))), rfl, rfl, rfl⟩, trivial⟩, fun Lr => t_assign rfl rfl rfl (t_nil' fun a ha => ⟨rfl, _, (fun v' h => by cases h; rfl), ha, hW⟩)⟩
            · exact fun D ρ w hcD hnD hdD hW => ⟨[], trivial, fun Lr => t_assign rfl rfl rfl (t_nil' fun a ha => ⟨rfl, _, (fun v' h => by cases h; rfl), ha, hW⟩)⟩
            intro ρ w126 hW
            have u127 : Upd (fun _ => False) w73 w126 := hW
            have zu127 := u127.size
            have E128 := E76.next u127 (fun _ _ h => h.elim)
            refine QK.weak [(6, .bool (mayB (thrS a n) (thrS b n))), (7, .bool (mustB (thrS a n) (thrS b n))), (8, .int .i64 0)] ⟨rfl, rfl, rfl, trivial⟩ ?_
            refine hK80 _ _ ?_
            refine c_ret ?_
            refine f_ret3 (v1 := .bool (mayB (thrS a n) (thrS b n))) (v2 := .bool (mustB (thrS a n) (thrS b n))) (v3 := .int .i64 0) Try.results41 rfl rfl rfl ?_
            exact ⟨by (try have hb1 := okVoy_bad g14); (try have hb2 := okVoy_bad g19); simp_all [MeetE, MeetOk], E128⟩

end Go.Proofs.Ytmicjleiheoieaa
