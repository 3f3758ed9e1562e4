/-
  Contracts of Through and Meet. Conditions: none.
-/
import Derived.Test.YtmicjleiheoieaaA3
namespace Go.Proofs.Ytmicjleiheoieaa
open Go Go.RowKit
def ThrE (v : Voy) (n : Nar) : Int := if okVoy v && okNar n then thrE v n else 2
def ThrS (v : Voy) (n : Nar) : Stay := if okVoy v && okNar n then thrS v n else ⟨⟨0, 0⟩, ⟨0, 0⟩, false⟩
/-- Meet: may, must, the error. -/
def MeetE (a b : Voy) (n : Nar) : Int := if okVoy a && okVoy b && okNar n then (if thrE a n = 0 then thrE b n else thrE a n) else 2
def MeetOk (a b : Voy) (n : Nar) : Bool := okVoy a && okVoy b && okNar n && decide (thrE a n = 0) && decide (thrE b n = 0)

theorem Through_c (v : Voy) (ao : Option Addr) (b o cap : Nat) (n : Nar) (w0 : World) (hs : Sl encRun 6 w0 ao b o v.runs) (hl : v.runs.length ≤ 1000000) :
    CallsV Try.prog 40 [.agg #[.int .i64 v.st.lo, .int .i64 v.st.hi, .slice ao ((v.runs).length) cap, .int .i64 v.len, .int .i64 v.wid], .agg #[.int .i64 n.frm, .int .i64 n.to, .int .i64 n.wid, .bool n.single]] w0 (fun x w' => x = .tuple #[.agg #[.int .i64 (ThrS v n).inn.lo, .int .i64 (ThrS v n).inn.hi], .agg #[.int .i64 (ThrS v n).out.lo, .int .i64 (ThrS v n).out.hi], .bool (ThrS v n).there, .int .i64 (ThrE v n)] ∧ Ext w0 w') := by
 have E0 := Upd.refl (fun _ => False) w0
 refine f_enter (N := 32) Try.func40 rfl rfl rfl ?_
 change WC _ _ _ _ _ _ [(0, .agg #[.int .i64 v.st.lo, .int .i64 v.st.hi, .slice ao ((v.runs).length) cap, .int .i64 v.len, .int .i64 v.wid]), (1, .agg #[.int .i64 n.frm, .int .i64 n.to, .int .i64 n.wid, .bool n.single])] _
 refine c_seq fun K1 hK1 => (c_region (t_box (cs := [.int .i64 v.st.lo, .int .i64 v.st.hi, .slice ao ((v.runs).length) cap, .int .i64 v.len, .int .i64 v.wid]) rfl rfl rfl rfl (fun bk2 w3 ebk2 sbk2 B4 u5 => ?_)))
 have zu5 := u5.size
 have E6 := E0.next u5 (fun _ _ h => h.elim)
 refine t_box (cs := [.int .i64 n.frm, .int .i64 n.to, .int .i64 n.wid, .bool n.single]) rfl rfl rfl rfl (fun bk7 w8 ebk7 sbk7 B9 u10 => ?_)
 have zu10 := u10.size
 have E11 := E6.next u10 (fun _ _ h => h.elim)
 refine t_alloc (cs := [.int .i64 0, .int .i64 0]) Try.zeroValue45 rfl rfl rfl (fun bk12 w13 ebk12 sbk12 B14 u15 => ?_)
 have zu15 := u15.size
 have E16 := E11.next u15 (fun _ _ h => h.elim)
 refine t_alloc (cs := [.int .i64 0, .int .i64 0]) Try.zeroValue45 rfl rfl rfl (fun bk17 w18 ebk17 sbk17 B19 u20 => ?_)
 have zu20 := u20.size
 have E21 := E16.next u20 (fun _ _ h => h.elim)
 refine t_assign rfl rfl rfl (t_assign rfl rfl rfl (t_nil' (hK1 _ _ (c_seq fun K22 hK22 => (c_seq fun K23 hK23 => (c_region ?_))))))
 have B24 := (((B4.keep u10 (fun h => h)).keep u15 (fun h => h)).keep u20 (fun h => h))
 refine t_loadN (vs := [.int .i64 v.st.lo, .int .i64 v.st.hi, .slice ao ((v.runs).length) cap, .int .i64 v.len, .int .i64 v.wid]) Try.isAgg48 Try.sizeOf48 rfl rfl rfl (B24.at.sub 0 5) rfl (t_call (vs := [.agg #[.int .i64 v.st.lo, .int .i64 v.st.hi, .slice ao ((v.runs).length) cap, .int .i64 v.len, .int .i64 v.wid]]) own29 rfl rfl rfl rfl (Check_c v ao b o cap _ (hs.keep E21 (fun _ h => h)) (by omega)) (fun v25 w26 r28 => ?_))
 obtain ⟨rfl, u27⟩ := r28
 have zu27 := u27.size
 have E29 := E21.next u27 (fun _ _ h => h.elim)
 refine t_cmp rfl rfl rfl rfl rfl (t_move rfl rfl rfl (t_splitp 12 rfl (fun g12 => ?_) (fun g12 => ?_)))
 ·
  refine t_skip rfl rfl rfl (t_skip rfl rfl rfl (t_skip rfl rfl rfl (t_pick_t rfl rfl rfl rfl (t_nil' (hK23 _ _ (c_cond_t rfl (c_seq fun K30 hK30 => ?_)))))))
  have B31 := ((B14.keep u20 (fun h => h)).keep u27 (fun h => h))
  have B32 := (B19.keep u27 (fun h => h))
  refine WC.weak [(4, .pointer (some ⟨bk12, 0, none⟩)), (5, .pointer (some ⟨bk17, 0, none⟩))] ⟨rfl, rfl, trivial⟩ (c_drawn follows 6 [some (17, some (.agg #[.int .i64 0, .int .i64 0])), some (18, some (.agg #[.int .i64 0, .int .i64 0])), none, none, some (6, some (.bool false)), some (7, some (.int .i64 2))] [[],[],[0,0],[1,2,0,1,2],[3,0,1,2,3],[4,0,1,2,3,4]] (fun D _ w => Upd (fun i => i = bk12 ∨ i = bk17) w26 w ∧ Blk w bk12 45 [(bif D 2 then .int .i64 0 else .int .i64 0), (bif D 2 then .int .i64 0 else .int .i64 0)] ∧ Blk w bk17 45 [(bif D 3 then .int .i64 0 else .int .i64 0), (bif D 3 then .int .i64 0 else .int .i64 0)]) rfl rfl rfl (by kernel_rfl) (by kernel_rfl) ⟨(Upd.drew _).to, (B31.keep (Upd.drew _) (fun h => h)), (B32.keep (Upd.drew _) (fun h => h))⟩ ⟨?_, ?_, ?_, ?_, ?_, ?_, trivial⟩ ?_)
  ·
   intro D ρ w33 hcD hnD hdD hW
   obtain ⟨u34, B35, B36⟩ := hW
   have zu34 := u34.size
   have d2 := hcD.late 2 hnD rfl
   have B38 := B35
   simp only [d2, cond_false] at B38
   have d3 := hcD.late 3 hnD rfl
   have B39 := B36
   simp only [d3, cond_false] at B39
   refine ⟨_, kf_fr [4], fun Lr => ?_⟩
   refine t_loadN (vs := [.int .i64 0, .int .i64 0]) Try.isAgg45 Try.sizeOf45 rfl rfl rfl (B38.at.sub 0 2) rfl ?_
   exact dz rfl ⟨u34, B35, B36⟩
  ·
   intro D ρ w40 hcD hnD hdD hW
   obtain ⟨u41, B42, B43⟩ := hW
   have zu41 := u41.size
   have d3 := hcD.late 3 hnD rfl
   have B45 := B43
   simp only [d3, cond_false] at B45
   refine ⟨_, kf_fr [5], fun Lr => ?_⟩
   refine t_loadN (vs := [.int .i64 0, .int .i64 0]) Try.isAgg45 Try.sizeOf45 rfl rfl rfl (B45.at.sub 0 2) rfl ?_
   exact dz rfl ⟨u41, B42, B43⟩
  ·
   intro D ρ w46 hcD hnD hdD hW
   obtain ⟨u47, B48, B49⟩ := hW
   have zu47 := u47.size
   have B51 := B48
   simp only [hnD, cond_false] at B51
   have d3 := hcD.late 3 hnD rfl
   have B52 := B49
   simp only [d3, cond_false] at B52
   refine ⟨_, kf_fr [4, 17], fun Lr => ?_⟩
   refine t_store (vs := [.int .i64 0, .int .i64 0]) Try.sizeOf45 rfl rfl rfl B51 rfl rfl (Nat.le_of_ble_eq_true rfl) (by simp [Value.oneCell']) (fun w53 sw53 B55 u54 => ?_)
   have zu54 := u54.size
   have B55 : Blk w53 bk12 45 [.int .i64 0, .int .i64 0] := B55
   exact dz0 rfl ⟨(u47.next u54 (fun i hi (h : i = bk12) => show i = bk12 ∨ i = bk17 by first | omega | assumption)), (by show Blk w53 bk12 45 [.int .i64 0, .int .i64 0]; exact B55), (B49.keep u54 (show ¬ (bk17 = bk12) by first | omega | assumption))⟩
  ·
   intro D ρ w57 hcD hnD hdD hW
   obtain ⟨u58, B59, B60⟩ := hW
   have zu58 := u58.size
   have d2 := hdD 2 rfl
   have B62 := B59
   simp only [d2, cond_true] at B62
   have B63 := B60
   simp only [hnD, cond_false] at B63
   refine ⟨_, kf_fr [5, 18], fun Lr => ?_⟩
   refine t_store (vs := [.int .i64 0, .int .i64 0]) Try.sizeOf45 rfl rfl rfl B63 rfl rfl (Nat.le_of_ble_eq_true rfl) (by simp [Value.oneCell']) (fun w64 sw64 B66 u65 => ?_)
   have zu65 := u65.size
   have B66 : Blk w64 bk17 45 [.int .i64 0, .int .i64 0] := B66
   exact dz0 rfl ⟨(u58.next u65 (fun i hi (h : i = bk17) => show i = bk12 ∨ i = bk17 by first | omega | assumption)), (B59.keep u65 (show ¬ (bk12 = bk17) by first | omega | assumption)), (by show Blk w64 bk17 45 [.int .i64 0, .int .i64 0]; exact B66)⟩
  · exact pz rfl rfl rfl rfl fun _ _ _ h => h
  · exact pz rfl rfl rfl rfl fun _ _ _ h => h
  intro ρ w68 hW
  obtain ⟨u69, B70, B71⟩ := hW
  have zu69 := u69.size
  have E72 := E29.next u69 (fun i hi (h : i = bk12 ∨ i = bk17) => show False by first | omega | assumption)
  have B70 : Blk w68 bk12 45 [.int .i64 0, .int .i64 0] := B70
  have B71 : Blk w68 bk17 45 [.int .i64 0, .int .i64 0] := B71
  refine QK.weak [(4, .pointer (some ⟨bk12, 0, none⟩)), (5, .pointer (some ⟨bk17, 0, none⟩)), (6, .bool false), (7, .int .i64 2)] ⟨rfl, rfl, rfl, rfl, trivial⟩ (hK30 _ _ (c_ret (f_ret4 (v1 := .agg #[.int .i64 0, .int .i64 0]) (v2 := .agg #[.int .i64 0, .int .i64 0]) (v3 := .bool false) (v4 := .int .i64 2) Try.results40 ⟨_, _, rfl, run_loadVarN (vs := [.int .i64 0, .int .i64 0]) Try.isAgg45 Try.sizeOf45 rfl (B70.at.sub 0 2)⟩ ⟨_, _, rfl, run_loadVarN (vs := [.int .i64 0, .int .i64 0]) Try.isAgg45 Try.sizeOf45 rfl (B71.at.sub 0 2)⟩ rfl rfl ?_)))
  exact ⟨by (try have hb := okVoy_bad g12); simp_all [ThrE, ThrS], E72⟩
 ·
  have B73 := (((B9.keep u15 (fun h => h)).keep u20 (fun h => h)).keep u27 (fun h => h))
  refine t_loadN (vs := [.int .i64 n.frm, .int .i64 n.to, .int .i64 n.wid, .bool n.single]) Try.isAgg72 Try.sizeOf72 rfl rfl rfl (B73.at.sub 0 4) rfl (t_call (vs := [.agg #[.int .i64 n.frm, .int .i64 n.to, .int .i64 n.wid, .bool n.single]]) own76 rfl rfl rfl rfl (isNarrow_c n _) (fun v74 w75 r77 => ?_))
  obtain ⟨rfl, u76⟩ := r77
  have zu76 := u76.size
  have E78 := E29.next u76 (fun _ _ h => h.elim)
  refine t_not rfl rfl rfl (t_pick_f rfl rfl rfl rfl (t_nil' (hK23 _ _ (c_cond rfl (fun g16 => ?_) (fun g16 => ?_)))))
  ·
   refine c_seq fun K79 hK79 => ?_
   have B80 := (((B14.keep u20 (fun h => h)).keep u27 (fun h => h)).keep u76 (fun h => h))
   have B81 := ((B19.keep u27 (fun h => h)).keep u76 (fun h => h))
   refine WC.weak [(4, .pointer (some ⟨bk12, 0, none⟩)), (5, .pointer (some ⟨bk17, 0, none⟩))] ⟨rfl, rfl, trivial⟩ (c_drawn follows 6 [some (17, some (.agg #[.int .i64 0, .int .i64 0])), some (18, some (.agg #[.int .i64 0, .int .i64 0])), none, none, some (6, some (.bool false)), some (7, some (.int .i64 2))] [[],[],[0,0],[1,2,0,1,2],[3,0,1,2,3],[4,0,1,2,3,4]] (fun D _ w => Upd (fun i => i = bk12 ∨ i = bk17) w75 w ∧ Blk w bk12 45 [(bif D 2 then .int .i64 0 else .int .i64 0), (bif D 2 then .int .i64 0 else .int .i64 0)] ∧ Blk w bk17 45 [(bif D 3 then .int .i64 0 else .int .i64 0), (bif D 3 then .int .i64 0 else .int .i64 0)]) rfl rfl rfl (by kernel_rfl) (by kernel_rfl) ⟨(Upd.drew _).to, (B80.keep (Upd.drew _) (fun h => h)), (B81.keep (Upd.drew _) (fun h => h))⟩ ⟨?_, ?_, ?_, ?_, ?_, ?_, trivial⟩ ?_)
   ·
    intro D ρ w82 hcD hnD hdD hW
    obtain ⟨u83, B84, B85⟩ := hW
    have zu83 := u83.size
    have d2 := hcD.late 2 hnD rfl
    have B87 := B84
    simp only [d2, cond_false] at B87
    have d3 := hcD.late 3 hnD rfl
    have B88 := B85
    simp only [d3, cond_false] at B88
    refine ⟨_, kf_fr [4], fun Lr => ?_⟩
    refine t_loadN (vs := [.int .i64 0, .int .i64 0]) Try.isAgg45 Try.sizeOf45 rfl rfl rfl (B87.at.sub 0 2) rfl ?_
    exact dz rfl ⟨u83, B84, B85⟩
   ·
    intro D ρ w89 hcD hnD hdD hW
    obtain ⟨u90, B91, B92⟩ := hW
    have zu90 := u90.size
    have d3 := hcD.late 3 hnD rfl
    have B94 := B92
    simp only [d3, cond_false] at B94
    refine ⟨_, kf_fr [5], fun Lr => ?_⟩
    refine t_loadN (vs := [.int .i64 0, .int .i64 0]) Try.isAgg45 Try.sizeOf45 rfl rfl rfl (B94.at.sub 0 2) rfl ?_
    exact dz rfl ⟨u90, B91, B92⟩
   ·
    intro D ρ w95 hcD hnD hdD hW
    obtain ⟨u96, B97, B98⟩ := hW
    have zu96 := u96.size
    have B100 := B97
    simp only [hnD, cond_false] at B100
    have d3 := hcD.late 3 hnD rfl
    have B101 := B98
    simp only [d3, cond_false] at B101
    refine ⟨_, kf_fr [4, 17], fun Lr => ?_⟩
    refine t_store (vs := [.int .i64 0, .int .i64 0]) Try.sizeOf45 rfl rfl rfl B100 rfl rfl (Nat.le_of_ble_eq_true rfl) (by simp [Value.oneCell']) (fun w102 sw102 B104 u103 => ?_)
    have zu103 := u103.size
    have B104 : Blk w102 bk12 45 [.int .i64 0, .int .i64 0] := B104
    exact dz0 rfl ⟨(u96.next u103 (fun i hi (h : i = bk12) => show i = bk12 ∨ i = bk17 by first | omega | assumption)), (by show Blk w102 bk12 45 [.int .i64 0, .int .i64 0]; exact B104), (B98.keep u103 (show ¬ (bk17 = bk12) by first | omega | assumption))⟩
   ·
    intro D ρ w106 hcD hnD hdD hW
    obtain ⟨u107, B108, B109⟩ := hW
    have zu107 := u107.size
    have d2 := hdD 2 rfl
    have B111 := B108
    simp only [d2, cond_true] at B111
    have B112 := B109
    simp only [hnD, cond_false] at B112
    refine ⟨_, kf_fr [5, 18], fun Lr => ?_⟩
    refine t_store (vs := [.int .i64 0, .int .i64 0]) Try.sizeOf45 rfl rfl rfl B112 rfl rfl (Nat.le_of_ble_eq_true rfl) (by simp [Value.oneCell']) (fun w113 sw113 B115 u114 => ?_)
    have zu114 := u114.size
    have B115 : Blk w113 bk17 45 [.int .i64 0, .int .i64 0] := B115
    exact dz0 rfl ⟨(u107.next u114 (fun i hi (h : i = bk17) => show i = bk12 ∨ i = bk17 by first | omega | assumption)), (B108.keep u114 (show ¬ (bk12 = bk17) by first | omega | assumption)), (by show Blk w113 bk17 45 [.int .i64 0, .int .i64 0]; exact B115)⟩
   · exact pz rfl rfl rfl rfl fun _ _ _ h => h
   · exact pz rfl rfl rfl rfl fun _ _ _ h => h
   intro ρ w117 hW
   obtain ⟨u118, B119, B120⟩ := hW
   have zu118 := u118.size
   have E121 := E78.next u118 (fun i hi (h : i = bk12 ∨ i = bk17) => show False by first | omega | assumption)
   have B119 : Blk w117 bk12 45 [.int .i64 0, .int .i64 0] := B119
   have B120 : Blk w117 bk17 45 [.int .i64 0, .int .i64 0] := B120
   refine QK.weak [(4, .pointer (some ⟨bk12, 0, none⟩)), (5, .pointer (some ⟨bk17, 0, none⟩)), (6, .bool false), (7, .int .i64 2)] ⟨rfl, rfl, rfl, rfl, trivial⟩ (hK79 _ _ (c_ret (f_ret4 (v1 := .agg #[.int .i64 0, .int .i64 0]) (v2 := .agg #[.int .i64 0, .int .i64 0]) (v3 := .bool false) (v4 := .int .i64 2) Try.results40 ⟨_, _, rfl, run_loadVarN (vs := [.int .i64 0, .int .i64 0]) Try.isAgg45 Try.sizeOf45 rfl (B119.at.sub 0 2)⟩ ⟨_, _, rfl, run_loadVarN (vs := [.int .i64 0, .int .i64 0]) Try.isAgg45 Try.sizeOf45 rfl (B120.at.sub 0 2)⟩ rfl rfl ?_)))
   exact ⟨by (try have hb := okVoy_bad g12); simp_all [ThrE, ThrS], E121⟩
  ·
   refine c_skip (hK22 _ _ (c_seq fun K122 hK122 => (c_region ?_)))
   have hk := okVoy_of g12
   have hv := okVoy_rng hk
   have hm : okNar n = true := by simpa using g16
   have hn := okNar_rng hm
   have B123 := ((B24.keep u27 (fun h => h)).keep u76 (fun h => h))
   refine t_loadN (vs := [.int .i64 v.st.lo, .int .i64 v.st.hi, .slice ao ((v.runs).length) cap, .int .i64 v.len, .int .i64 v.wid]) Try.isAgg48 Try.sizeOf48 rfl rfl rfl (B123.at.sub 0 5) rfl ?_
   have B124 := (B73.keep u76 (fun h => h))
   refine t_loadN (vs := [.int .i64 n.frm, .int .i64 n.to, .int .i64 n.wid, .bool n.single]) Try.isAgg72 Try.sizeOf72 rfl rfl rfl (B124.at.sub 0 4) rfl (t_call (vs := [.agg #[.int .i64 v.st.lo, .int .i64 v.st.hi, .slice ao ((v.runs).length) cap, .int .i64 v.len, .int .i64 v.wid], .agg #[.int .i64 n.frm, .int .i64 n.to, .int .i64 n.wid, .bool n.single]]) own77 rfl rfl rfl rfl (through_c v ao b o cap n _ (hs.keep E78 (fun _ h => h)) hv hn) (fun v125 w126 r128 => ?_))
   obtain ⟨rfl, u127⟩ := r128
   have zu127 := u127.size
   have E129 := E78.next u127 (fun _ _ h => h.elim)
   refine t_move rfl rfl rfl (t_extract (vs := [.agg #[.int .i64 ((thrS v n).inn.lo), .int .i64 ((thrS v n).inn.hi), .int .i64 ((thrS v n).out.lo), .int .i64 ((thrS v n).out.hi), .bool ((thrS v n).there)], .int .i64 (thrE v n)]) rfl rfl rfl rfl (t_extract (vs := [.agg #[.int .i64 ((thrS v n).inn.lo), .int .i64 ((thrS v n).inn.hi), .int .i64 ((thrS v n).out.lo), .int .i64 ((thrS v n).out.hi), .bool ((thrS v n).there)], .int .i64 (thrE v n)]) rfl rfl rfl rfl (t_alloc (cs := [.int .i64 0, .int .i64 0, .int .i64 0, .int .i64 0, .bool false]) Try.zeroValue141 rfl rfl rfl (fun bk130 w131 ebk130 sbk130 B132 u133 => ?_))))
   have zu133 := u133.size
   have E134 := E129.next u133 (fun _ _ h => h.elim)
   refine t_store (vs := [.int .i64 ((thrS v n).inn.lo), .int .i64 ((thrS v n).inn.hi), .int .i64 ((thrS v n).out.lo), .int .i64 ((thrS v n).out.hi), .bool ((thrS v n).there)]) Try.sizeOf141 rfl rfl rfl B132 rfl rfl (Nat.le_of_ble_eq_true rfl) (by simp [Value.oneCell']) (fun w135 sw135 B137 u136 => ?_)
   have zu136 := u136.size
   have E138 := E134.next u136 (fun i hi (h : i = bk130) => show False by first | omega | assumption)
   have B137 : Blk w135 bk130 141 [.int .i64 ((thrS v n).inn.lo), .int .i64 ((thrS v n).inn.hi), .int .i64 ((thrS v n).out.lo), .int .i64 ((thrS v n).out.hi), .bool ((thrS v n).there)] := B137
   refine t_assign rfl rfl rfl (t_nil' (hK122 _ _ (c_seq fun K139 hK139 => ?_)))
   have B140 := ((((((B14.keep u20 (fun h => h)).keep u27 (fun h => h)).keep u76 (fun h => h)).keep u127 (fun h => h)).keep u133 (fun h => h)).keep u136 (show ¬ (bk12 = bk130) by first | omega | assumption))
   have B141 := (((((B19.keep u27 (fun h => h)).keep u76 (fun h => h)).keep u127 (fun h => h)).keep u133 (fun h => h)).keep u136 (show ¬ (bk17 = bk130) by first | omega | assumption))
   refine WC.weak [(4, .pointer (some ⟨bk12, 0, none⟩)), (5, .pointer (some ⟨bk17, 0, none⟩)), (7, .int .i64 (thrE v n)), (8, .pointer (some ⟨bk130, 0, none⟩))] ⟨rfl, rfl, rfl, rfl, trivial⟩ (c_drawn follows 11 [some (25, some (.pointer (some ⟨bk130, 0, none⟩))), some (26, some (.agg #[.int .i64 ((thrS v n).inn.lo), .int .i64 ((thrS v n).inn.hi)])), some (27, some (.pointer (some ⟨bk130, 2, none⟩))), some (28, some (.agg #[.int .i64 ((thrS v n).out.lo), .int .i64 ((thrS v n).out.hi)])), some (29, some (.pointer (some ⟨bk130, 4, none⟩))), some (30, some (.bool ((thrS v n).there))), some (31, some (.int .i64 (thrE v n))), none, none, some (6, some (.bool ((thrS v n).there))), some (7, some (.int .i64 (thrE v n)))] [[],[0],[],[2],[],[4],[],[1,0,1],[3,7,0,1,2,3,7],[5,8,0,1,2,3,4,5,7,8],[6,9,0,1,2,3,4,5,6,7,8,9]] (fun D _ w => Upd (fun i => i = bk12 ∨ i = bk17) w135 w ∧ Blk w bk12 45 [(bif D 7 then .int .i64 ((thrS v n).inn.lo) else .int .i64 0), (bif D 7 then .int .i64 ((thrS v n).inn.hi) else .int .i64 0)] ∧ Blk w bk17 45 [(bif D 8 then .int .i64 ((thrS v n).out.lo) else .int .i64 0), (bif D 8 then .int .i64 ((thrS v n).out.hi) else .int .i64 0)]) rfl rfl rfl (by kernel_rfl) (by kernel_rfl) ⟨(Upd.drew _).to, (B140.keep (Upd.drew _) (fun h => h)), (B141.keep (Upd.drew _) (fun h => h))⟩ ⟨?_, ?_, ?_, ?_, ?_, ?_, ?_, ?_, ?_, ?_, ?_, trivial⟩ ?_)
   · exact pzf Try.underlying141 rfl Try.sizeOf45 (0) rfl rfl rfl rfl rfl fun _ _ _ h => h
   ·
    intro D ρ w142 hcD hnD hdD hW
    obtain ⟨u143, B144, B145⟩ := hW
    have zu143 := u143.size
    have d7 := hcD.late 7 hnD rfl
    have B147 := B144
    simp only [d7, cond_false] at B147
    have d8 := hcD.late 8 hnD rfl
    have B148 := B145
    simp only [d8, cond_false] at B148
    refine ⟨_, kf_fr [25], fun Lr => ?_⟩
    have B149 := (B137.keep u143 (show ¬ (bk130 = bk12 ∨ bk130 = bk17) by first | omega | assumption))
    refine t_loadN (vs := [.int .i64 ((thrS v n).inn.lo), .int .i64 ((thrS v n).inn.hi)]) Try.isAgg45 Try.sizeOf45 rfl rfl rfl (B149.at.sub 0 2) rfl ?_
    exact dz rfl ⟨u143, B144, B145⟩
   · exact pzf Try.underlying141 rfl Try.sizeOf45 (2) rfl rfl rfl rfl rfl fun _ _ _ h => h
   ·
    intro D ρ w150 hcD hnD hdD hW
    obtain ⟨u151, B152, B153⟩ := hW
    have zu151 := u151.size
    have d8 := hcD.late 8 hnD rfl
    have B155 := B153
    simp only [d8, cond_false] at B155
    refine ⟨_, kf_fr [27], fun Lr => ?_⟩
    have B156 := (B137.keep u151 (show ¬ (bk130 = bk12 ∨ bk130 = bk17) by first | omega | assumption))
    refine t_loadN (vs := [.int .i64 ((thrS v n).out.lo), .int .i64 ((thrS v n).out.hi)]) Try.isAgg45 Try.sizeOf45 rfl rfl rfl (B156.at.sub 2 2) rfl ?_
    exact dz rfl ⟨u151, B152, B153⟩
   · exact pzf Try.underlying141 rfl Try.sizeOf4 (4) rfl rfl rfl rfl rfl fun _ _ _ h => h
   · exact fun D ρ w157 hcD hnD hdD hW => ⟨_, kf_fr [29], fun Lr => t_load Try.isAgg4 rfl rfl rfl ((B137.keep hW.1 (show ¬ (bk130 = bk12 ∨ bk130 = bk17) by first | omega | assumption)).get rfl) (dz rfl hW)⟩
   · exact pz rfl rfl rfl rfl fun _ _ _ h => h
   ·
    intro D ρ w163 hcD hnD hdD hW
    obtain ⟨u164, B165, B166⟩ := hW
    have zu164 := u164.size
    have B168 := B165
    simp only [hnD, cond_false] at B168
    have d8 := hcD.late 8 hnD rfl
    have B169 := B166
    simp only [d8, cond_false] at B169
    refine ⟨_, kf_fr [4, 26], fun Lr => ?_⟩
    refine t_store (vs := [.int .i64 ((thrS v n).inn.lo), .int .i64 ((thrS v n).inn.hi)]) Try.sizeOf45 rfl rfl rfl B168 rfl rfl (Nat.le_of_ble_eq_true rfl) (by simp [Value.oneCell']) (fun w170 sw170 B172 u171 => ?_)
    have zu171 := u171.size
    have B172 : Blk w170 bk12 45 [.int .i64 ((thrS v n).inn.lo), .int .i64 ((thrS v n).inn.hi)] := B172
    exact dz0 rfl ⟨(u164.next u171 (fun i hi (h : i = bk12) => show i = bk12 ∨ i = bk17 by first | omega | assumption)), (by show Blk w170 bk12 45 [.int .i64 ((thrS v n).inn.lo), .int .i64 ((thrS v n).inn.hi)]; exact B172), (B166.keep u171 (show ¬ (bk17 = bk12) by first | omega | assumption))⟩
   ·
    intro D ρ w174 hcD hnD hdD hW
    obtain ⟨u175, B176, B177⟩ := hW
    have zu175 := u175.size
    have d7 := hdD 7 rfl
    have B179 := B176
    simp only [d7, cond_true] at B179
    have B180 := B177
    simp only [hnD, cond_false] at B180
    refine ⟨_, kf_fr [5, 28], fun Lr => ?_⟩
    refine t_store (vs := [.int .i64 ((thrS v n).out.lo), .int .i64 ((thrS v n).out.hi)]) Try.sizeOf45 rfl rfl rfl B180 rfl rfl (Nat.le_of_ble_eq_true rfl) (by simp [Value.oneCell']) (fun w181 sw181 B183 u182 => ?_)
    have zu182 := u182.size
    have B183 : Blk w181 bk17 45 [.int .i64 ((thrS v n).out.lo), .int .i64 ((thrS v n).out.hi)] := B183
    exact dz0 rfl ⟨(u175.next u182 (fun i hi (h : i = bk17) => show i = bk12 ∨ i = bk17 by first | omega | assumption)), (B176.keep u182 (show ¬ (bk12 = bk17) by first | omega | assumption)), (by show Blk w181 bk17 45 [.int .i64 ((thrS v n).out.lo), .int .i64 ((thrS v n).out.hi)]; exact B183)⟩
   · exact pz rfl rfl rfl rfl fun _ _ _ h => h
   · exact pz rfl rfl rfl rfl fun _ _ _ h => h
   intro ρ w185 hW
   obtain ⟨u186, B187, B188⟩ := hW
   have zu186 := u186.size
   have E189 := E138.next u186 (fun i hi (h : i = bk12 ∨ i = bk17) => show False by first | omega | assumption)
   have B187 : Blk w185 bk12 45 [.int .i64 ((thrS v n).inn.lo), .int .i64 ((thrS v n).inn.hi)] := B187
   have B188 : Blk w185 bk17 45 [.int .i64 ((thrS v n).out.lo), .int .i64 ((thrS v n).out.hi)] := B188
   refine QK.weak [(4, .pointer (some ⟨bk12, 0, none⟩)), (5, .pointer (some ⟨bk17, 0, none⟩)), (6, .bool ((thrS v n).there)), (7, .int .i64 (thrE v n))] ⟨rfl, rfl, rfl, rfl, trivial⟩ (hK139 _ _ (c_ret (f_ret4 (v1 := .agg #[.int .i64 ((thrS v n).inn.lo), .int .i64 ((thrS v n).inn.hi)]) (v2 := .agg #[.int .i64 ((thrS v n).out.lo), .int .i64 ((thrS v n).out.hi)]) (v3 := .bool ((thrS v n).there)) (v4 := .int .i64 (thrE v n)) Try.results40 ⟨_, _, rfl, run_loadVarN (vs := [.int .i64 ((thrS v n).inn.lo), .int .i64 ((thrS v n).inn.hi)]) Try.isAgg45 Try.sizeOf45 rfl (B187.at.sub 0 2)⟩ ⟨_, _, rfl, run_loadVarN (vs := [.int .i64 ((thrS v n).out.lo), .int .i64 ((thrS v n).out.hi)]) Try.isAgg45 Try.sizeOf45 rfl (B188.at.sub 0 2)⟩ rfl rfl ?_)))
   exact ⟨by simp_all [ThrE, ThrS], E189⟩

theorem may_c (s o : Stay) (w0 : World) :
    CallsV Try.prog 78 [.agg #[.int .i64 s.inn.lo, .int .i64 s.inn.hi, .int .i64 s.out.lo, .int .i64 s.out.hi, .bool s.there], .agg #[.int .i64 o.inn.lo, .int .i64 o.inn.hi, .int .i64 o.out.lo, .int .i64 o.out.hi, .bool o.there]] w0 (fun v w' => v = .bool (mayB s o) ∧ Ext w0 w') := by
 have E0 := Upd.refl (fun _ => False) w0
 refine f_enter (N := 29) Try.func78 rfl rfl rfl ?_
 change WC _ _ _ _ _ _ [(0, .agg #[.int .i64 s.inn.lo, .int .i64 s.inn.hi, .int .i64 s.out.lo, .int .i64 s.out.hi, .bool s.there]), (1, .agg #[.int .i64 o.inn.lo, .int .i64 o.inn.hi, .int .i64 o.out.lo, .int .i64 o.out.hi, .bool o.there])] _
 refine c_seq fun K1 hK1 => (c_region (t_box (cs := [.int .i64 s.inn.lo, .int .i64 s.inn.hi, .int .i64 s.out.lo, .int .i64 s.out.hi, .bool s.there]) rfl rfl rfl rfl (fun bk2 w3 ebk2 sbk2 B4 u5 => ?_)))
 have zu5 := u5.size
 have E6 := E0.next u5 (fun _ _ h => h.elim)
 refine t_box (cs := [.int .i64 o.inn.lo, .int .i64 o.inn.hi, .int .i64 o.out.lo, .int .i64 o.out.hi, .bool o.there]) rfl rfl rfl rfl (fun bk7 w8 ebk7 sbk7 B9 u10 => ?_)
 have zu10 := u10.size
 have E11 := E6.next u10 (fun _ _ h => h.elim)
 refine t_assign rfl rfl rfl (t_nil' (hK1 _ _ (c_seq fun K12 hK12 => (c_region (t_field Try.underlying141 rfl Try.sizeOf4 (4) rfl rfl rfl rfl ?_)))))
 have B13 := (B4.keep u10 (fun h => h))
 refine t_load Try.isAgg4 rfl rfl rfl (B13.get rfl) (t_move rfl rfl rfl (t_split 7 rfl (fun g7 => ?_) (fun g7 => ?_)))
 ·
  refine t_field Try.underlying141 rfl Try.sizeOf4 (4) rfl rfl rfl rfl (t_load Try.isAgg4 rfl rfl rfl (B9.get rfl) (t_pick_t rfl rfl rfl rfl (t_move rfl rfl rfl (t_split 11 rfl (fun g11 => ?_) (fun g11 => ?_)))))
  ·
   refine t_field Try.underlying141 rfl Try.sizeOf45 (0) rfl rfl rfl rfl (t_field Try.underlying45 rfl Try.sizeOf3 (0) rfl rfl rfl rfl (t_load Try.isAgg3 rfl rfl rfl (B13.get rfl) (t_field Try.underlying141 rfl Try.sizeOf45 (2) rfl rfl rfl rfl (t_field Try.underlying45 rfl Try.sizeOf3 (3) rfl rfl rfl rfl (t_load Try.isAgg3 rfl rfl rfl (B9.get rfl) (t_cmp rfl rfl rfl rfl rfl (t_pick_t rfl rfl rfl rfl (t_move rfl rfl rfl (t_splitp 20 rfl (fun g20 => ?_) (fun g20 => ?_))))))))))
   ·
    refine t_field Try.underlying141 rfl Try.sizeOf45 (0) rfl rfl rfl rfl (t_field Try.underlying45 rfl Try.sizeOf3 (0) rfl rfl rfl rfl (t_load Try.isAgg3 rfl rfl rfl (B9.get rfl) (t_field Try.underlying141 rfl Try.sizeOf45 (2) rfl rfl rfl rfl (t_field Try.underlying45 rfl Try.sizeOf3 (3) rfl rfl rfl rfl (t_load Try.isAgg3 rfl rfl rfl (B13.get rfl) (t_cmp rfl rfl rfl rfl rfl (t_pick_t rfl rfl rfl rfl (t_assign rfl rfl rfl (t_nil' (hK12 _ _ (c_ret (f_ret1 (v := .bool (decide (o.inn.lo ≤ s.out.hi))) Try.results78 rfl ?_))))))))))))
    exact ⟨by simp [mayB, *], E11⟩
   ·
    refine t_skip rfl rfl rfl (t_skip rfl rfl rfl (t_skip rfl rfl rfl (t_skip rfl rfl rfl (t_skip rfl rfl rfl (t_skip rfl rfl rfl (t_skip rfl rfl rfl (t_pick_f rfl rfl rfl rfl (t_assign rfl rfl rfl (t_nil' (hK12 _ _ (c_ret (f_ret1 (v := .bool false) Try.results78 rfl ?_))))))))))))
    exact ⟨by simp [mayB, *], E11⟩
  ·
   refine t_skip rfl rfl rfl (t_skip rfl rfl rfl (t_skip rfl rfl rfl (t_skip rfl rfl rfl (t_skip rfl rfl rfl (t_skip rfl rfl rfl (t_skip rfl rfl rfl (t_pick_f rfl rfl rfl rfl (t_move rfl rfl rfl (t_skip rfl rfl rfl (t_skip rfl rfl rfl (t_skip rfl rfl rfl (t_skip rfl rfl rfl (t_skip rfl rfl rfl (t_skip rfl rfl rfl (t_skip rfl rfl rfl (t_pick_f rfl rfl rfl rfl (t_assign rfl rfl rfl (t_nil' (hK12 _ _ (c_ret (f_ret1 (v := .bool false) Try.results78 rfl ?_)))))))))))))))))))))
   exact ⟨by simp [mayB, *], E11⟩
 ·
  refine t_skip rfl rfl rfl (t_skip rfl rfl rfl (t_pick_f rfl rfl rfl rfl (t_move rfl rfl rfl (t_skip rfl rfl rfl (t_skip rfl rfl rfl (t_skip rfl rfl rfl (t_skip rfl rfl rfl (t_skip rfl rfl rfl (t_skip rfl rfl rfl (t_skip rfl rfl rfl (t_pick_f rfl rfl rfl rfl (t_move rfl rfl rfl (t_skip rfl rfl rfl (t_skip rfl rfl rfl (t_skip rfl rfl rfl (t_skip rfl rfl rfl (t_skip rfl rfl rfl (t_skip rfl rfl rfl (t_skip rfl rfl rfl (t_pick_f rfl rfl rfl rfl (t_assign rfl rfl rfl (t_nil' (hK12 _ _ ?_)))))))))))))))))))))))
  refine c_ret (f_ret1 (v := .bool false) Try.results78 rfl ?_)
  exact ⟨by simp [mayB, *], E11⟩

theorem must_c (s o : Stay) (w0 : World) :
    CallsV Try.prog 79 [.agg #[.int .i64 s.inn.lo, .int .i64 s.inn.hi, .int .i64 s.out.lo, .int .i64 s.out.hi, .bool s.there], .agg #[.int .i64 o.inn.lo, .int .i64 o.inn.hi, .int .i64 o.out.lo, .int .i64 o.out.hi, .bool o.there]] w0 (fun v w' => v = .bool (mustB s o) ∧ Ext w0 w') := by
 have E0 := Upd.refl (fun _ => False) w0
 refine f_enter (N := 29) Try.func79 rfl rfl rfl ?_
 change WC _ _ _ _ _ _ [(0, .agg #[.int .i64 s.inn.lo, .int .i64 s.inn.hi, .int .i64 s.out.lo, .int .i64 s.out.hi, .bool s.there]), (1, .agg #[.int .i64 o.inn.lo, .int .i64 o.inn.hi, .int .i64 o.out.lo, .int .i64 o.out.hi, .bool o.there])] _
 refine c_seq fun K1 hK1 => (c_region (t_box (cs := [.int .i64 s.inn.lo, .int .i64 s.inn.hi, .int .i64 s.out.lo, .int .i64 s.out.hi, .bool s.there]) rfl rfl rfl rfl (fun bk2 w3 ebk2 sbk2 B4 u5 => ?_)))
 have zu5 := u5.size
 have E6 := E0.next u5 (fun _ _ h => h.elim)
 refine t_box (cs := [.int .i64 o.inn.lo, .int .i64 o.inn.hi, .int .i64 o.out.lo, .int .i64 o.out.hi, .bool o.there]) rfl rfl rfl rfl (fun bk7 w8 ebk7 sbk7 B9 u10 => ?_)
 have zu10 := u10.size
 have E11 := E6.next u10 (fun _ _ h => h.elim)
 refine t_assign rfl rfl rfl (t_nil' (hK1 _ _ (c_seq fun K12 hK12 => (c_region (t_field Try.underlying141 rfl Try.sizeOf4 (4) rfl rfl rfl rfl ?_)))))
 have B13 := (B4.keep u10 (fun h => h))
 refine t_load Try.isAgg4 rfl rfl rfl (B13.get rfl) (t_move rfl rfl rfl (t_split 7 rfl (fun g7 => ?_) (fun g7 => ?_)))
 ·
  refine t_field Try.underlying141 rfl Try.sizeOf4 (4) rfl rfl rfl rfl (t_load Try.isAgg4 rfl rfl rfl (B9.get rfl) (t_pick_t rfl rfl rfl rfl (t_move rfl rfl rfl (t_split 11 rfl (fun g11 => ?_) (fun g11 => ?_)))))
  ·
   refine t_field Try.underlying141 rfl Try.sizeOf45 (0) rfl rfl rfl rfl (t_field Try.underlying45 rfl Try.sizeOf3 (1) rfl rfl rfl rfl (t_load Try.isAgg3 rfl rfl rfl (B13.get rfl) (t_field Try.underlying141 rfl Try.sizeOf45 (2) rfl rfl rfl rfl (t_field Try.underlying45 rfl Try.sizeOf3 (2) rfl rfl rfl rfl (t_load Try.isAgg3 rfl rfl rfl (B9.get rfl) (t_cmp rfl rfl rfl rfl rfl (t_pick_t rfl rfl rfl rfl (t_move rfl rfl rfl (t_splitp 20 rfl (fun g20 => ?_) (fun g20 => ?_))))))))))
   ·
    refine t_field Try.underlying141 rfl Try.sizeOf45 (0) rfl rfl rfl rfl (t_field Try.underlying45 rfl Try.sizeOf3 (1) rfl rfl rfl rfl (t_load Try.isAgg3 rfl rfl rfl (B9.get rfl) (t_field Try.underlying141 rfl Try.sizeOf45 (2) rfl rfl rfl rfl (t_field Try.underlying45 rfl Try.sizeOf3 (2) rfl rfl rfl rfl (t_load Try.isAgg3 rfl rfl rfl (B13.get rfl) (t_cmp rfl rfl rfl rfl rfl (t_pick_t rfl rfl rfl rfl (t_assign rfl rfl rfl (t_nil' (hK12 _ _ (c_ret (f_ret1 (v := .bool (decide (o.inn.hi ≤ s.out.lo))) Try.results79 rfl ?_))))))))))))
    exact ⟨by simp [mustB, *], E11⟩
   ·
    refine t_skip rfl rfl rfl (t_skip rfl rfl rfl (t_skip rfl rfl rfl (t_skip rfl rfl rfl (t_skip rfl rfl rfl (t_skip rfl rfl rfl (t_skip rfl rfl rfl (t_pick_f rfl rfl rfl rfl (t_assign rfl rfl rfl (t_nil' (hK12 _ _ (c_ret (f_ret1 (v := .bool false) Try.results79 rfl ?_))))))))))))
    exact ⟨by simp [mustB, *], E11⟩
  ·
   refine t_skip rfl rfl rfl (t_skip rfl rfl rfl (t_skip rfl rfl rfl (t_skip rfl rfl rfl (t_skip rfl rfl rfl (t_skip rfl rfl rfl (t_skip rfl rfl rfl (t_pick_f rfl rfl rfl rfl (t_move rfl rfl rfl (t_skip rfl rfl rfl (t_skip rfl rfl rfl (t_skip rfl rfl rfl (t_skip rfl rfl rfl (t_skip rfl rfl rfl (t_skip rfl rfl rfl (t_skip rfl rfl rfl (t_pick_f rfl rfl rfl rfl (t_assign rfl rfl rfl (t_nil' (hK12 _ _ (c_ret (f_ret1 (v := .bool false) Try.results79 rfl ?_)))))))))))))))))))))
   exact ⟨by simp [mustB, *], E11⟩
 ·
  refine t_skip rfl rfl rfl (t_skip rfl rfl rfl (t_pick_f rfl rfl rfl rfl (t_move rfl rfl rfl (t_skip rfl rfl rfl (t_skip rfl rfl rfl (t_skip rfl rfl rfl (t_skip rfl rfl rfl (t_skip rfl rfl rfl (t_skip rfl rfl rfl (t_skip rfl rfl rfl (t_pick_f rfl rfl rfl rfl (t_move rfl rfl rfl (t_skip rfl rfl rfl (t_skip rfl rfl rfl (t_skip rfl rfl rfl (t_skip rfl rfl rfl (t_skip rfl rfl rfl (t_skip rfl rfl rfl (t_skip rfl rfl rfl (t_pick_f rfl rfl rfl rfl (t_assign rfl rfl rfl (t_nil' (hK12 _ _ ?_)))))))))))))))))))))))
  refine c_ret (f_ret1 (v := .bool false) Try.results79 rfl ?_)
  exact ⟨by simp [mustB, *], E11⟩

theorem Meet_c (a : Voy) (ao1 : Option Addr) (b1 o1 cap1 : Nat) (b : Voy) (ao2 : Option Addr) (b2 o2 cap2 : Nat) (n : Nar) (w0 : World) (hs1 : Sl encRun 6 w0 ao1 b1 o1 a.runs) (hs2 : Sl encRun 6 w0 ao2 b2 o2 b.runs) (hl1 : a.runs.length ≤ 1000000) (hl2 : b.runs.length ≤ 1000000) :
    CallsV Try.prog 41 [.agg #[.int .i64 a.st.lo, .int .i64 a.st.hi, .slice ao1 ((a.runs).length) cap1, .int .i64 a.len, .int .i64 a.wid], .agg #[.int .i64 b.st.lo, .int .i64 b.st.hi, .slice ao2 ((b.runs).length) cap2, .int .i64 b.len, .int .i64 b.wid], .agg #[.int .i64 n.frm, .int .i64 n.to, .int .i64 n.wid, .bool n.single]] w0 (fun x w' => x = .tuple #[.bool (MeetOk a b n && mayB (thrS a n) (thrS b n)), .bool (MeetOk a b n && mustB (thrS a n) (thrS b n)), .int .i64 (MeetE a b n)] ∧ Ext w0 w') := by
 have E0 := Upd.refl (fun _ => False) w0
 refine f_enter (N := 48) Try.func41 rfl rfl rfl ?_
 change WC _ _ _ _ _ _ [(0, .agg #[.int .i64 a.st.lo, .int .i64 a.st.hi, .slice ao1 ((a.runs).length) cap1, .int .i64 a.len, .int .i64 a.wid]), (1, .agg #[.int .i64 b.st.lo, .int .i64 b.st.hi, .slice ao2 ((b.runs).length) cap2, .int .i64 b.len, .int .i64 b.wid]), (2, .agg #[.int .i64 n.frm, .int .i64 n.to, .int .i64 n.wid, .bool n.single])] _
 refine c_seq fun K1 hK1 => (c_region (t_box (cs := [.int .i64 a.st.lo, .int .i64 a.st.hi, .slice ao1 ((a.runs).length) cap1, .int .i64 a.len, .int .i64 a.wid]) rfl rfl rfl rfl (fun bk2 w3 ebk2 sbk2 B4 u5 => ?_)))
 have zu5 := u5.size
 have E6 := E0.next u5 (fun _ _ h => h.elim)
 refine t_box (cs := [.int .i64 b.st.lo, .int .i64 b.st.hi, .slice ao2 ((b.runs).length) cap2, .int .i64 b.len, .int .i64 b.wid]) rfl rfl rfl rfl (fun bk7 w8 ebk7 sbk7 B9 u10 => ?_)
 have zu10 := u10.size
 have E11 := E6.next u10 (fun _ _ h => h.elim)
 refine t_box (cs := [.int .i64 n.frm, .int .i64 n.to, .int .i64 n.wid, .bool n.single]) rfl rfl rfl rfl (fun bk12 w13 ebk12 sbk12 B14 u15 => ?_)
 have zu15 := u15.size
 have E16 := E11.next u15 (fun _ _ h => h.elim)
 refine t_assign rfl rfl rfl (t_assign rfl rfl rfl (t_assign rfl rfl rfl (t_nil' (hK1 _ _ (c_seq fun K17 hK17 => (c_seq fun K18 hK18 => (c_region ?_)))))))
 have B19 := ((B4.keep u10 (fun h => h)).keep u15 (fun h => h))
 refine t_loadN (vs := [.int .i64 a.st.lo, .int .i64 a.st.hi, .slice ao1 ((a.runs).length) cap1, .int .i64 a.len, .int .i64 a.wid]) Try.isAgg48 Try.sizeOf48 rfl rfl rfl (B19.at.sub 0 5) rfl (t_call (vs := [.agg #[.int .i64 a.st.lo, .int .i64 a.st.hi, .slice ao1 ((a.runs).length) cap1, .int .i64 a.len, .int .i64 a.wid]]) own29 rfl rfl rfl rfl (Check_c a ao1 b1 o1 cap1 _ (hs1.keep E16 (fun _ h => h)) (by omega)) (fun v20 w21 r23 => ?_))
 obtain ⟨rfl, u22⟩ := r23
 have zu22 := u22.size
 have E24 := E16.next u22 (fun _ _ h => h.elim)
 refine t_cmp rfl rfl rfl rfl rfl (t_move rfl rfl rfl (t_splitp 14 rfl (fun g14 => ?_) (fun g14 => ?_)))
 ·
  refine t_skip rfl rfl rfl (t_skip rfl rfl rfl (t_skip rfl rfl rfl (t_pick_t rfl rfl rfl rfl (t_move rfl rfl rfl (t_skip rfl rfl rfl (t_skip rfl rfl rfl (t_skip rfl rfl rfl (t_pick_t rfl rfl rfl rfl (t_nil' (hK18 _ _ (c_cond_t rfl (c_seq fun K25 hK25 => (c_region (t_assign rfl rfl rfl (t_assign rfl rfl rfl (t_assign rfl rfl rfl (t_nil' (hK25 _ _ (c_ret (f_ret3 (v1 := .bool false) (v2 := .bool false) (v3 := .int .i64 2) Try.results41 rfl rfl rfl ?_))))))))))))))))))))
  exact ⟨by (try have hb1 := okVoy_bad g14); (try have hb2 := okVoy_bad g19); simp_all [MeetE, MeetOk], E24⟩
 ·
  have B26 := ((B9.keep u15 (fun h => h)).keep u22 (fun h => h))
  refine t_loadN (vs := [.int .i64 b.st.lo, .int .i64 b.st.hi, .slice ao2 ((b.runs).length) cap2, .int .i64 b.len, .int .i64 b.wid]) Try.isAgg48 Try.sizeOf48 rfl rfl rfl (B26.at.sub 0 5) rfl (t_call (vs := [.agg #[.int .i64 b.st.lo, .int .i64 b.st.hi, .slice ao2 ((b.runs).length) cap2, .int .i64 b.len, .int .i64 b.wid]]) own29 rfl rfl rfl rfl (Check_c b ao2 b2 o2 cap2 _ (hs2.keep E24 (fun _ h => h)) (by omega)) (fun v27 w28 r30 => ?_))
  obtain ⟨rfl, u29⟩ := r30
  have zu29 := u29.size
  have E31 := E24.next u29 (fun _ _ h => h.elim)
  refine t_cmp rfl rfl rfl rfl rfl (t_pick_f rfl rfl rfl rfl (t_move rfl rfl rfl (t_splitp 19 rfl (fun g19 => ?_) (fun g19 => ?_))))
  ·
   refine t_skip rfl rfl rfl (t_skip rfl rfl rfl (t_skip rfl rfl rfl (t_pick_t rfl rfl rfl rfl (t_nil' (hK18 _ _ (c_cond_t rfl (c_seq fun K32 hK32 => (c_region (t_assign rfl rfl rfl (t_assign rfl rfl rfl (t_assign rfl rfl rfl (t_nil' (hK32 _ _ (c_ret (f_ret3 (v1 := .bool false) (v2 := .bool false) (v3 := .int .i64 2) Try.results41 rfl rfl rfl ?_)))))))))))))))
   exact ⟨by (try have hb1 := okVoy_bad g14); (try have hb2 := okVoy_bad g19); simp_all [MeetE, MeetOk], E31⟩
  ·
   have B33 := ((B14.keep u22 (fun h => h)).keep u29 (fun h => h))
   refine t_loadN (vs := [.int .i64 n.frm, .int .i64 n.to, .int .i64 n.wid, .bool n.single]) Try.isAgg72 Try.sizeOf72 rfl rfl rfl (B33.at.sub 0 4) rfl (t_call (vs := [.agg #[.int .i64 n.frm, .int .i64 n.to, .int .i64 n.wid, .bool n.single]]) own76 rfl rfl rfl rfl (isNarrow_c n _) (fun v34 w35 r37 => ?_))
   obtain ⟨rfl, u36⟩ := r37
   have zu36 := u36.size
   have E38 := E31.next u36 (fun _ _ h => h.elim)
   refine t_not rfl rfl rfl (t_pick_f rfl rfl rfl rfl (t_nil' (hK18 _ _ (c_cond rfl (fun g23 => ?_) (fun g23 => ?_)))))
   ·
    refine c_seq fun K39 hK39 => (c_region (t_assign rfl rfl rfl (t_assign rfl rfl rfl (t_assign rfl rfl rfl (t_nil' (hK39 _ _ (c_ret (f_ret3 (v1 := .bool false) (v2 := .bool false) (v3 := .int .i64 2) Try.results41 rfl rfl rfl ?_))))))))
    exact ⟨by (try have hb1 := okVoy_bad g14); (try have hb2 := okVoy_bad g19); simp_all [MeetE, MeetOk], E38⟩
   ·
    refine c_skip (hK17 _ _ (c_seq fun K40 hK40 => (c_region ?_)))
    have hk1 := okVoy_of g14
    have hv1 := okVoy_rng hk1
    have hk2 := okVoy_of g19
    have hv2 := okVoy_rng hk2
    have hm : okNar n = true := by simpa using g23
    have hn := okNar_rng hm
    have B41 := (((B19.keep u22 (fun h => h)).keep u29 (fun h => h)).keep u36 (fun h => h))
    refine t_loadN (vs := [.int .i64 a.st.lo, .int .i64 a.st.hi, .slice ao1 ((a.runs).length) cap1, .int .i64 a.len, .int .i64 a.wid]) Try.isAgg48 Try.sizeOf48 rfl rfl rfl (B41.at.sub 0 5) rfl ?_
    have B42 := (B33.keep u36 (fun h => h))
    refine t_loadN (vs := [.int .i64 n.frm, .int .i64 n.to, .int .i64 n.wid, .bool n.single]) Try.isAgg72 Try.sizeOf72 rfl rfl rfl (B42.at.sub 0 4) rfl (t_call (vs := [.agg #[.int .i64 a.st.lo, .int .i64 a.st.hi, .slice ao1 ((a.runs).length) cap1, .int .i64 a.len, .int .i64 a.wid], .agg #[.int .i64 n.frm, .int .i64 n.to, .int .i64 n.wid, .bool n.single]]) own77 rfl rfl rfl rfl (through_c a ao1 b1 o1 cap1 n _ (hs1.keep E38 (fun _ h => h)) hv1 hn) (fun v43 w44 r46 => ?_))
    obtain ⟨rfl, u45⟩ := r46
    have zu45 := u45.size
    have E47 := E38.next u45 (fun _ _ h => h.elim)
    refine t_move rfl rfl rfl (t_extract (vs := [.agg #[.int .i64 ((thrS a n).inn.lo), .int .i64 ((thrS a n).inn.hi), .int .i64 ((thrS a n).out.lo), .int .i64 ((thrS a n).out.hi), .bool ((thrS a n).there)], .int .i64 (thrE a n)]) rfl rfl rfl rfl (t_extract (vs := [.agg #[.int .i64 ((thrS a n).inn.lo), .int .i64 ((thrS a n).inn.hi), .int .i64 ((thrS a n).out.lo), .int .i64 ((thrS a n).out.hi), .bool ((thrS a n).there)], .int .i64 (thrE a n)]) rfl rfl rfl rfl (t_alloc (cs := [.int .i64 0, .int .i64 0, .int .i64 0, .int .i64 0, .bool false]) Try.zeroValue141 rfl rfl rfl (fun bk48 w49 ebk48 sbk48 B50 u51 => ?_))))
    have zu51 := u51.size
    have E52 := E47.next u51 (fun _ _ h => h.elim)
    refine t_store (vs := [.int .i64 ((thrS a n).inn.lo), .int .i64 ((thrS a n).inn.hi), .int .i64 ((thrS a n).out.lo), .int .i64 ((thrS a n).out.hi), .bool ((thrS a n).there)]) Try.sizeOf141 rfl rfl rfl B50 rfl rfl (Nat.le_of_ble_eq_true rfl) (by simp [Value.oneCell']) (fun w53 sw53 B55 u54 => ?_)
    have zu54 := u54.size
    have E56 := E52.next u54 (fun i hi (h : i = bk48) => show False by first | omega | assumption)
    have B55 : Blk w53 bk48 141 [.int .i64 ((thrS a n).inn.lo), .int .i64 ((thrS a n).inn.hi), .int .i64 ((thrS a n).out.lo), .int .i64 ((thrS a n).out.hi), .bool ((thrS a n).there)] := B55
    refine t_assign rfl rfl rfl (t_nil' (hK40 _ _ (c_seq fun K57 hK57 => (c_seq fun K58 hK58 => (c_region (t_move rfl rfl rfl (t_cmp rfl rfl rfl rfl rfl (t_nil' (hK58 _ _ (c_condp rfl (fun g31 => ?_) (fun g31 => ?_)))))))))))
    ·
     refine c_seq fun K59 hK59 => (c_region (t_move rfl rfl rfl (t_assign rfl rfl rfl (t_assign rfl rfl rfl (t_assign rfl rfl rfl (t_nil' (hK59 _ _ (c_ret (f_ret3 (v1 := .bool false) (v2 := .bool false) (v3 := .int .i64 (thrE a n)) Try.results41 rfl rfl rfl ?_)))))))))
     exact ⟨by (try have hb1 := okVoy_bad g14); (try have hb2 := okVoy_bad g19); simp_all [MeetE, MeetOk], E56⟩
    ·
     refine c_skip (hK57 _ _ (c_seq fun K60 hK60 => (c_region ?_)))
     have B61 := (((((B26.keep u29 (fun h => h)).keep u36 (fun h => h)).keep u45 (fun h => h)).keep u51 (fun h => h)).keep u54 (show ¬ (bk7 = bk48) by first | omega | assumption))
     refine t_loadN (vs := [.int .i64 b.st.lo, .int .i64 b.st.hi, .slice ao2 ((b.runs).length) cap2, .int .i64 b.len, .int .i64 b.wid]) Try.isAgg48 Try.sizeOf48 rfl rfl rfl (B61.at.sub 0 5) rfl ?_
     have B62 := (((B42.keep u45 (fun h => h)).keep u51 (fun h => h)).keep u54 (show ¬ (bk12 = bk48) by first | omega | assumption))
     refine t_loadN (vs := [.int .i64 n.frm, .int .i64 n.to, .int .i64 n.wid, .bool n.single]) Try.isAgg72 Try.sizeOf72 rfl rfl rfl (B62.at.sub 0 4) rfl (t_call (vs := [.agg #[.int .i64 b.st.lo, .int .i64 b.st.hi, .slice ao2 ((b.runs).length) cap2, .int .i64 b.len, .int .i64 b.wid], .agg #[.int .i64 n.frm, .int .i64 n.to, .int .i64 n.wid, .bool n.single]]) own77 rfl rfl rfl rfl (through_c b ao2 b2 o2 cap2 n _ (hs2.keep E56 (fun _ h => h)) hv2 hn) (fun v63 w64 r66 => ?_))
     obtain ⟨rfl, u65⟩ := r66
     have zu65 := u65.size
     have E67 := E56.next u65 (fun _ _ h => h.elim)
     refine t_move rfl rfl rfl (t_extract (vs := [.agg #[.int .i64 ((thrS b n).inn.lo), .int .i64 ((thrS b n).inn.hi), .int .i64 ((thrS b n).out.lo), .int .i64 ((thrS b n).out.hi), .bool ((thrS b n).there)], .int .i64 (thrE b n)]) rfl rfl rfl rfl (t_extract (vs := [.agg #[.int .i64 ((thrS b n).inn.lo), .int .i64 ((thrS b n).inn.hi), .int .i64 ((thrS b n).out.lo), .int .i64 ((thrS b n).out.hi), .bool ((thrS b n).there)], .int .i64 (thrE b n)]) rfl rfl rfl rfl (t_alloc (cs := [.int .i64 0, .int .i64 0, .int .i64 0, .int .i64 0, .bool false]) Try.zeroValue141 rfl rfl rfl (fun bk68 w69 ebk68 sbk68 B70 u71 => ?_))))
     have zu71 := u71.size
     have E72 := E67.next u71 (fun _ _ h => h.elim)
     refine t_store (vs := [.int .i64 ((thrS b n).inn.lo), .int .i64 ((thrS b n).inn.hi), .int .i64 ((thrS b n).out.lo), .int .i64 ((thrS b n).out.hi), .bool ((thrS b n).there)]) Try.sizeOf141 rfl rfl rfl B70 rfl rfl (Nat.le_of_ble_eq_true rfl) (by simp [Value.oneCell']) (fun w73 sw73 B75 u74 => ?_)
     have zu74 := u74.size
     have E76 := E72.next u74 (fun i hi (h : i = bk68) => show False by first | omega | assumption)
     have B75 : Blk w73 bk68 141 [.int .i64 ((thrS b n).inn.lo), .int .i64 ((thrS b n).inn.hi), .int .i64 ((thrS b n).out.lo), .int .i64 ((thrS b n).out.hi), .bool ((thrS b n).there)] := B75
     refine t_assign rfl rfl rfl (t_nil' (hK60 _ _ (c_seq fun K77 hK77 => (c_seq fun K78 hK78 => (c_region (t_move rfl rfl rfl (t_cmp rfl rfl rfl rfl rfl (t_nil' (hK78 _ _ (c_condp rfl (fun g40 => ?_) (fun g40 => ?_)))))))))))
     ·
      refine c_seq fun K79 hK79 => (c_region (t_move rfl rfl rfl (t_assign rfl rfl rfl (t_assign rfl rfl rfl (t_assign rfl rfl rfl (t_nil' (hK79 _ _ (c_ret (f_ret3 (v1 := .bool false) (v2 := .bool false) (v3 := .int .i64 (thrE b n)) Try.results41 rfl rfl rfl ?_)))))))))
      exact ⟨by (try have hb1 := okVoy_bad g14); (try have hb2 := okVoy_bad g19); simp_all [MeetE, MeetOk], E76⟩
     ·
      refine c_skip (hK77 _ _ (c_seq fun K80 hK80 => ?_))
      have B81 := (((B55.keep u65 (fun h => h)).keep u71 (fun h => h)).keep u74 (show ¬ (bk48 = bk68) by first | omega | assumption))
      refine WC.weak [(9, .pointer (some ⟨bk48, 0, none⟩)), (10, .pointer (some ⟨bk68, 0, none⟩))] ⟨rfl, rfl, trivial⟩ (c_drawn follows 9 [some (42, some (.agg #[.int .i64 ((thrS a n).inn.lo), .int .i64 ((thrS a n).inn.hi), .int .i64 ((thrS a n).out.lo), .int .i64 ((thrS a n).out.hi), .bool ((thrS a n).there)])), some (43, some (.agg #[.int .i64 ((thrS b n).inn.lo), .int .i64 ((thrS b n).inn.hi), .int .i64 ((thrS b n).out.lo), .int .i64 ((thrS b n).out.hi), .bool ((thrS b n).there)])), some (44, some (.bool (mayB (thrS a n) (thrS b n)))), some (45, some (.agg #[.int .i64 ((thrS a n).inn.lo), .int .i64 ((thrS a n).inn.hi), .int .i64 ((thrS a n).out.lo), .int .i64 ((thrS a n).out.hi), .bool ((thrS a n).there)])), some (46, some (.agg #[.int .i64 ((thrS b n).inn.lo), .int .i64 ((thrS b n).inn.hi), .int .i64 ((thrS b n).out.lo), .int .i64 ((thrS b n).out.hi), .bool ((thrS b n).there)])), some (47, some (.bool (mustB (thrS a n) (thrS b n)))), some (6, some (.bool (mayB (thrS a n) (thrS b n)))), some (7, some (.bool (mustB (thrS a n) (thrS b n)))), some (8, some (.int .i64 0))] [[],[],[0,1],[],[],[3,4,2],[2,5,0,1,2],[5,6,0,1,2,3,4,5,6],[7,0,1,2,3,4,5,6,7]] (fun _ _ w => Upd (fun _ => False) w73 w) rfl rfl rfl (by kernel_rfl) (by kernel_rfl) (Upd.drew _).to ⟨?_, ?_, ?_, ?_, ?_, ?_, ?_, ?_, ?_, trivial⟩ ?_)
      ·
       intro D ρ w94 hcD hnD hdD hW
       have zhW := hW.size
       refine ⟨_, kf_fr [9], fun Lr => ?_⟩
       have B97 := (B81.keep hW (fun h => h))
       refine t_loadN (vs := [.int .i64 ((thrS a n).inn.lo), .int .i64 ((thrS a n).inn.hi), .int .i64 ((thrS a n).out.lo), .int .i64 ((thrS a n).out.hi), .bool ((thrS a n).there)]) Try.isAgg141 Try.sizeOf141 rfl rfl rfl (B97.at.sub 0 5) rfl ?_
       exact dz rfl hW
      ·
       intro D ρ w98 hcD hnD hdD hW
       have zhW := hW.size
       refine ⟨_, kf_fr [10], fun Lr => ?_⟩
       have B101 := (B75.keep hW (fun h => h))
       refine t_loadN (vs := [.int .i64 ((thrS b n).inn.lo), .int .i64 ((thrS b n).inn.hi), .int .i64 ((thrS b n).out.lo), .int .i64 ((thrS b n).out.hi), .bool ((thrS b n).there)]) Try.isAgg141 Try.sizeOf141 rfl rfl rfl (B101.at.sub 0 5) rfl ?_
       exact dz rfl hW
      ·
       intro D ρ w102 hcD hnD hdD hW
       have zhW := hW.size
       refine ⟨_, kf_fr [42, 43], fun Lr => ?_⟩
       refine t_call (vs := [.agg #[.int .i64 ((thrS a n).inn.lo), .int .i64 ((thrS a n).inn.hi), .int .i64 ((thrS a n).out.lo), .int .i64 ((thrS a n).out.hi), .bool ((thrS a n).there)], .agg #[.int .i64 ((thrS b n).inn.lo), .int .i64 ((thrS b n).inn.hi), .int .i64 ((thrS b n).out.lo), .int .i64 ((thrS b n).out.hi), .bool ((thrS b n).there)]]) own78 rfl rfl rfl rfl (may_c (thrS a n) (thrS b n) _) (fun v105 w106 r108 => ?_)
       obtain ⟨rfl, u107⟩ := r108
       have zu107 := u107.size
       exact dz rfl (hW.next u107 (fun _ _ h => h.elim))
      ·
       intro D ρ w110 hcD hnD hdD hW
       have zhW := hW.size
       refine ⟨_, kf_fr [9], fun Lr => ?_⟩
       have B113 := (B81.keep hW (fun h => h))
       refine t_loadN (vs := [.int .i64 ((thrS a n).inn.lo), .int .i64 ((thrS a n).inn.hi), .int .i64 ((thrS a n).out.lo), .int .i64 ((thrS a n).out.hi), .bool ((thrS a n).there)]) Try.isAgg141 Try.sizeOf141 rfl rfl rfl (B113.at.sub 0 5) rfl ?_
       exact dz rfl hW
      ·
       intro D ρ w114 hcD hnD hdD hW
       have zhW := hW.size
       refine ⟨_, kf_fr [10], fun Lr => ?_⟩
       have B117 := (B75.keep hW (fun h => h))
       refine t_loadN (vs := [.int .i64 ((thrS b n).inn.lo), .int .i64 ((thrS b n).inn.hi), .int .i64 ((thrS b n).out.lo), .int .i64 ((thrS b n).out.hi), .bool ((thrS b n).there)]) Try.isAgg141 Try.sizeOf141 rfl rfl rfl (B117.at.sub 0 5) rfl ?_
       exact dz rfl hW
      ·
       intro D ρ w118 hcD hnD hdD hW
       have zhW := hW.size
       refine ⟨_, kf_fr [45, 46], fun Lr => ?_⟩
       refine t_call (vs := [.agg #[.int .i64 ((thrS a n).inn.lo), .int .i64 ((thrS a n).inn.hi), .int .i64 ((thrS a n).out.lo), .int .i64 ((thrS a n).out.hi), .bool ((thrS a n).there)], .agg #[.int .i64 ((thrS b n).inn.lo), .int .i64 ((thrS b n).inn.hi), .int .i64 ((thrS b n).out.lo), .int .i64 ((thrS b n).out.hi), .bool ((thrS b n).there)]]) own79 rfl rfl rfl rfl (must_c (thrS a n) (thrS b n) _) (fun v121 w122 r124 => ?_)
       obtain ⟨rfl, u123⟩ := r124
       have zu123 := u123.size
       exact dz rfl (hW.next u123 (fun _ _ h => h.elim))
      · exact pz rfl rfl rfl rfl fun _ _ _ h => h
      · exact pz rfl rfl rfl rfl fun _ _ _ h => h
      · exact pz rfl rfl rfl rfl fun _ _ _ h => h
      intro ρ w126 hW
      have u127 : Upd (fun _ => False) w73 w126 := hW
      have zu127 := u127.size
      have E128 := E76.next u127 (fun _ _ h => h.elim)
      refine QK.weak [(6, .bool (mayB (thrS a n) (thrS b n))), (7, .bool (mustB (thrS a n) (thrS b n))), (8, .int .i64 0)] ⟨rfl, rfl, rfl, trivial⟩ (hK80 _ _ (c_ret (f_ret3 (v1 := .bool (mayB (thrS a n) (thrS b n))) (v2 := .bool (mustB (thrS a n) (thrS b n))) (v3 := .int .i64 0) Try.results41 rfl rfl rfl ?_)))
      exact ⟨by (try have hb1 := okVoy_bad g14); (try have hb2 := okVoy_bad g19); simp_all [MeetE, MeetOk], E128⟩

end Go.Proofs.Ytmicjleiheoieaa
