/-
  The reference's Step. Conditions: none.
-/
import Derived.Test.YtgkkgpenmppjcaaVB6
namespace Go.Proofs.Ytgkkgpenmppjcaa
open Go Go.RowKit
theorem own50 : Own Try.prog 50 := ⟨Try.f50, Try.func50, by kernel_rfl, by kernel_rfl⟩

set_option maxHeartbeats 2000000 in
theorem Step4_c (bs : List Bil) (caps : List Int) (mi : Int) (R : RG) (n : Nat) (x : Ev) (ev : Int) (w0 : World) (hR : RM w0 R) (hst : StOk bs caps n R.st) (hx : okEv x = true) (hev : EvOk bs caps R.st mi x) (hse : R.se.length ≤ 100000) (hn : n ≤ 100) (hk : x.kind = 4) :
    CallsV Try.prog 50 [.agg #[.slice R.ha R.hl.length R.hc, .slice R.sa R.sl.length R.sc, .slice R.la R.ld.length R.lc, .slice R.da R.lo.length R.dc, .slice R.ea R.se.length R.ec], .agg #[.int .i64 4, .int .i64 x.minute, .int .i64 x.bill, .int .i64 x.frm, .int .i64 x.to, .int .i64 x.tons, .int .i64 x.port, .int .i64 x.sn], .int .i64 ev] w0 (fun v w' => ∃ R' : RG, v = .agg R'.cells.toArray ∧ R'.st = stepF R.st x ev ∧ RM w' R' ∧ R'.se.length ≤ R.se.length + 1 ∧ (∀ T : Nat → Prop, RB T R → (∀ g, w0.heap.size ≤ g → T g) → RB T R') ∧ Ext w0 w') := by
 have hr := okEv_rng hx
 have hn1 : R.hl.length = caps.length := by have h := hst.hn; rwa [show R.st.hold.length = R.hl.length from List.length_map _] at h
 have hn2 : R.sl.length = caps.length := hst.sn
 have hn3 : R.lo.length = bs.length := hst.lsn
 have hn4 := hst.bn
 have hn5 := hst.h20
 have hto := hev.to (by simp [useT, hk])
 refine f_enter (N := 122) Try.func50 rfl rfl rfl (c_seq fun K1 hK1 => (c_region (t_box (cs := [.slice R.ha R.hl.length R.hc, .slice R.sa R.sl.length R.sc, .slice R.la R.ld.length R.lc, .slice R.da R.lo.length R.dc, .slice R.ea R.se.length R.ec]) rfl rfl rfl rfl (fun bk2 w3 ebk2 sbk2 B4 u5 => ?_))))
 have zu5 := u5.size
 refine t_box (cs := [.int .i64 4, .int .i64 x.minute, .int .i64 x.bill, .int .i64 x.frm, .int .i64 x.to, .int .i64 x.tons, .int .i64 x.port, .int .i64 x.sn]) rfl rfl rfl rfl (fun bk7 w8 ebk7 sbk7 B9 u10 => ?_)
 have zu10 := u10.size
 refine t_alloc (cs := [.slice none 0 0, .slice none 0 0, .slice none 0 0, .slice none 0 0, .slice none 0 0]) Try.zeroValue47 rfl rfl rfl (fun bk12 w13 ebk12 sbk12 B14 u15 => ?_)
 have zu15 := u15.size
 have E16 := (((Upd.refl (fun _ => False) w0).nx u5).nx u10).nx u15
 refine t_nil' (hK1 _ _ (c_seq fun K17 hK17 => ?_))
 have B18 := ((B4.kx u10).kx u15)
 refine c_drawnS follows 12 9 [some (8, none), some (9, some (.pointer (some ⟨bk2, 0, none⟩))), some (10, some (.slice R.ha R.hl.length R.hc)), some (11, none), some (12, none), some (13, some (.pointer (some ⟨bk2, 1, none⟩))), some (14, some (.slice R.sa R.sl.length R.sc)), some (15, none), some (16, some (.pointer (some ⟨bk2, 0, none⟩)))] [[],[],[1],[0,2],[],[],[5],[4,6,3],[0,1,2,3,5,6],[8,3,7,0,1,2,3,5,6],[0,1,2,3,4,5,6,7,8,9],[10,7,9,0,1,2,3,4,5,6,7,8,9]] (fun D ρ w => Upd (fun _ => False) w13 w ∧ (D 0 = true → ∃ bk19, ρ 0 = .slice (some ⟨bk19, 0, none⟩) 0 0 ∧ w13.heap.size ≤ bk19 ∧ Blk w bk19 36 []) ∧ (D 3 = true → ∃ aoH gH cH, ρ 3 = .slice aoH R.hl.length cH ∧ (Acc encRowL 1 36 w13.heap.size w aoH gH cH R.hl ∧ w13.heap.size ≤ gH)) ∧ (D 4 = true → ∃ bk25, ρ 4 = .slice (some ⟨bk25, 0, none⟩) 0 0 ∧ w13.heap.size ≤ bk25 ∧ Blk w bk25 4 []) ∧ (D 7 = true → ∃ aoS gS cS, ρ 7 = .slice aoS R.sl.length cS ∧ (Acc encBo 1 4 w13.heap.size w aoS gS cS R.sl ∧ w13.heap.size ≤ gS))) rfl rfl rfl rfl (by kernel_rfl) (by kernel_rfl) (by kernel_rfl) ⟨(Upd.drew _).to, (fun h => by cases h), (fun h => by cases h), (fun h => by cases h), (fun h => by cases h)⟩ ⟨?_, ?_, ?_, ?_, ?_, ?_, ?_, ?_, ?_, trivial⟩ ?_
 ·
  intro D ρ w31 hcD hnD hdD hW
  obtain ⟨u32, F33, F34, F35, F36⟩ := hW
  have zu32 := u32.size
  refine ⟨[], trivial, fun Lr => ?_⟩
  refine t_bslice (ps := []) (cs := []) (e := 36) rfl rfl ⟨rfl, rfl⟩ (fun w => by kernel_rfl) (fun bk38 w39 ebk38 sbk38 B40 u41 => ?_)
  have zu41 := u41.size
  exact dzn rfl ⟨(u32.next u41 (fun _ _ h => h.elim)), (fun _ => ⟨bk38, rfl, (by omega), (by show Blk w39 bk38 36 []; exact B40)⟩), (fun h => absurd ((hcD.late 3 hnD rfl).symm.trans h) (by decide)), (fun h => by obtain ⟨b, e, hge, hB⟩ := F35 h; exact ⟨b, e, hge, (hB.keep u41 (fun h => h))⟩), (fun h => absurd ((hcD.late 7 (hcD.late 3 hnD rfl) rfl).symm.trans h) (by decide))⟩
 · exact pzf Try.underlying47 rfl Try.sizeOf33 (0) rfl rfl rfl rfl rfl fun _ _ _ h => h
 · exact fun D ρ w43 hcD hnD hdD hW => ⟨_, kf_fr [9], fun Lr => t_load Try.isAgg33 rfl rfl rfl ((B18.kx hW.1).get rfl) (dz rfl hW)⟩
 ·
  intro D ρ w51 hcD hnD hdD hW
  obtain ⟨u52, F53, F54, F55, F56⟩ := hW
  have zu52 := u52.size
  obtain ⟨bk19, e58, gebk19, B59⟩ := F53 (hdD 0 rfl)
  refine ⟨[(8, .slice (some ⟨bk19, 0, none⟩) 0 0), (10, .slice R.ha R.hl.length R.hc)], ⟨fi 0 rfl rfl e58.symm, fi 2 rfl rfl rfl, trivial⟩, fun Lr => ?_⟩
  have ltbk19 := B59.lt
  refine t_copyE (enc := encRowL) (z := .slice none 0 0) (bytes := 24) (k := 1) (ys := R.hl) Try.underlying33 (by kernel_rfl) rfl (by decide) (fun _ => rfl) (by intro x; simp [encRowL, Value.oneCell']) rfl rfl rfl rfl B59 (hR.hold.keep (E16.nx u52) (fun _ h => h)) (by omega) (by decide) (fun aoH gH cH w60 A62 u61 gegH => ?_)
  have zu61 := u61.size
  exact dzn rfl ⟨(u52.next u61 (fun _ _ h => h.elim)), (fun h => by obtain ⟨b, e, hge, hB⟩ := F53 h; exact ⟨b, e, hge, (hB.keep u61 (fun h => h))⟩), (fun _ => ⟨aoH, gH, cH, rfl, ⟨A62.rebase (by omega) (by omega), by omega⟩⟩), (fun h => by obtain ⟨b, e, hge, hB⟩ := F55 h; exact ⟨b, e, hge, (hB.keep u61 (fun h => h))⟩), (fun h => absurd ((hcD.late 7 hnD rfl).symm.trans h) (by decide))⟩
 ·
  intro D ρ w64 hcD hnD hdD hW
  obtain ⟨u65, F66, F67, F68, F69⟩ := hW
  have zu65 := u65.size
  refine ⟨[], trivial, fun Lr => ?_⟩
  refine t_bslice (ps := []) (cs := []) (e := 4) rfl rfl ⟨rfl, rfl⟩ (fun w => by kernel_rfl) (fun bk71 w72 ebk71 sbk71 B73 u74 => ?_)
  have zu74 := u74.size
  exact dzn rfl ⟨(u65.next u74 (fun _ _ h => h.elim)), (fun h => by obtain ⟨b, e, hge, hB⟩ := F66 h; exact ⟨b, e, hge, (hB.keep u74 (fun h => h))⟩), (fun h => by obtain ⟨aoH, gH, cH, e, hB⟩ := F67 h; exact ⟨aoH, gH, cH, e, ⟨(hB.1.keep u74 (fun _ h => h)), hB.2⟩⟩), (fun _ => ⟨bk71, rfl, (by omega), (by show Blk w72 bk71 4 []; exact B73)⟩), (fun h => absurd ((hcD.late 7 hnD rfl).symm.trans h) (by decide))⟩
 · exact pzf Try.underlying47 rfl Try.sizeOf43 (1) rfl rfl rfl rfl rfl fun _ _ _ h => h
 · exact fun D ρ w76 hcD hnD hdD hW => ⟨_, kf_fr [13], fun Lr => t_load Try.isAgg43 rfl rfl rfl ((B18.kx hW.1).get rfl) (dz rfl hW)⟩
 ·
  intro D ρ w84 hcD hnD hdD hW
  obtain ⟨u85, F86, F87, F88, F89⟩ := hW
  have zu85 := u85.size
  obtain ⟨bk25, e91, gebk25, B92⟩ := F88 (hdD 4 rfl)
  refine ⟨[(12, .slice (some ⟨bk25, 0, none⟩) 0 0), (14, .slice R.sa R.sl.length R.sc)], ⟨fi 4 rfl rfl e91.symm, fi 6 rfl rfl rfl, trivial⟩, fun Lr => ?_⟩
  have ltbk25 := B92.lt
  refine t_copyE (enc := encBo) (z := .bool false) (bytes := 1) (k := 1) (ys := R.sl) Try.underlying43 (by kernel_rfl) rfl (by decide) (fun _ => rfl) (by intro x; simp [encBo, Value.oneCell']) rfl rfl rfl rfl B92 (hR.shut.keep (E16.nx u85) (fun _ h => h)) (by omega) (by decide) (fun aoS gS cS w93 A95 u94 gegS => ?_)
  have zu94 := u94.size
  exact dzn rfl ⟨(u85.next u94 (fun _ _ h => h.elim)), (fun h => by obtain ⟨b, e, hge, hB⟩ := F86 h; exact ⟨b, e, hge, (hB.keep u94 (fun h => h))⟩), (fun h => by obtain ⟨aoH, gH, cH, e, hB⟩ := F87 h; exact ⟨aoH, gH, cH, e, ⟨(hB.1.keep u94 (fun _ h => h)), hB.2⟩⟩), (fun h => by obtain ⟨b, e, hge, hB⟩ := F88 h; exact ⟨b, e, hge, (hB.keep u94 (fun h => h))⟩), (fun _ => ⟨aoS, gS, cS, rfl, ⟨A95.rebase (by omega) (by omega), by omega⟩⟩)⟩
 · exact pzf Try.underlying47 rfl Try.sizeOf33 (0) rfl rfl rfl rfl rfl fun _ _ _ h => h
 intro ρ w97 hW
 obtain ⟨u98, F99, F100, F101, F102⟩ := hW
 have zu98 := u98.size
 obtain ⟨bk19, e104, gebk19, B105⟩ := F99 rfl
 have B105 : Blk w97 bk19 36 [] := B105
 have lt_bk19 := B105.lt
 obtain ⟨aoH, gH, cH, e106, H107⟩ := F100 rfl
 have agegH := H107.2
 have lt_gH := H107.1.lt
 obtain ⟨bk25, e108, gebk25, B109⟩ := F101 rfl
 have B109 : Blk w97 bk25 4 [] := B109
 have lt_bk25 := B109.lt
 obtain ⟨aoS, gS, cS, e110, H111⟩ := F102 rfl
 have agegS := H111.2
 have lt_gS := H111.1.lt
 have nHS : gH ≠ gS := Acc.neA H107.1 H111.1 (by decide) (by omega) (by omega)
 refine t_weak [(2, .int .i64 ev), (3, .pointer (some ⟨bk2, 0, none⟩)), (4, .pointer (some ⟨bk7, 0, none⟩)), (6, .pointer (some ⟨bk12, 0, none⟩)), (11, .slice aoH R.hl.length cH), (15, .slice aoS R.sl.length cS), (16, .pointer (some ⟨bk2, 0, none⟩))] ⟨rfl, rfl, rfl, rfl, (look_nd (j := 3) rfl rfl rfl e106), (look_nd (j := 7) rfl rfl rfl e110), rfl, trivial⟩ ?_
 have B112 := (B18.kx u98)
 refine t_st (vs := [.slice aoH R.hl.length cH]) Try.sizeOf33 rfl rfl rfl B112 rfl rfl rfl rfl (fun w113 sw113 B115 u114 => ?_)
 have zu114 := u114.size
 have B115 : Blk w113 bk2 47 [.slice aoH R.hl.length cH, .slice R.sa R.sl.length R.sc, .slice R.la R.ld.length R.lc, .slice R.da R.lo.length R.dc, .slice R.ea R.se.length R.ec] := B115
 refine t_field Try.underlying47 rfl Try.sizeOf43 (1) rfl rfl rfl rfl (t_st (vs := [.slice aoS R.sl.length cS]) Try.sizeOf43 rfl rfl rfl B115 rfl rfl rfl rfl (fun w117 sw117 B119 u118 => ?_))
 have zu118 := u118.size
 have B119 : Blk w117 bk2 47 [.slice aoH R.hl.length cH, .slice aoS R.sl.length cS, .slice R.la R.ld.length R.lc, .slice R.da R.lo.length R.dc, .slice R.ea R.se.length R.ec] := B119
 refine t_nil' (hK17 _ _ (c_seq fun K121 hK121 => (c_region (t_bslice (ps := []) (cs := []) (e := 3) rfl rfl ⟨rfl, rfl⟩ (fun w => by kernel_rfl) (fun bk122 w123 ebk122 sbk122 B124 u125 => ?_)))))
 have zu125 := u125.size
 have E126 := (((E16.nx u98).next u114 (fun i hi h => by omega)).next u118 (fun i hi h => by omega)).nx u125
 refine t_field Try.underlying47 rfl Try.sizeOf45 (3) rfl rfl rfl rfl ?_
 have B127 := (B119.kx u125)
 refine t_load Try.isAgg45 rfl rfl rfl (B127.get rfl) ?_
 have ltbk122 := B124.lt
 refine t_copyE (enc := encI) (z := .int .i64 0) (bytes := 8) (k := 1) (ys := R.lo) Try.underlying45 (by kernel_rfl) rfl (by decide) (fun _ => rfl) (by intro x; simp [encI, Value.oneCell']) rfl rfl rfl rfl B124 (hR.load.keep E126 (fun _ h => h)) (by omega) (by decide) (fun aoL gL cL w128 A130 u129 gegL => ?_)
 have zu129 := u129.size
 have hcL : (Acc encI 1 3 bk122 w128 aoL gL cL R.lo ∧ bk122 ≤ gL) := ⟨A130.rebase (by omega) (by omega), by omega⟩
 have agegL := hcL.2
 have lt_gL := hcL.1.lt
 have D132 := ((((H107.1.keep u114 (fun hb => show ¬ (gH = bk2) by first | omega | assumption)).keep u118 (fun hb => show ¬ (gH = bk2) by first | omega | assumption)).keep u125 (fun _ h => h)).keep u129 (fun _ h => h))
 have nHL : gH ≠ gL := Acc.neA D132 hcL.1 (by decide) (by omega) (by omega)
 have D133 := ((((H111.1.keep u114 (fun hb => show ¬ (gS = bk2) by first | omega | assumption)).keep u118 (fun hb => show ¬ (gS = bk2) by first | omega | assumption)).keep u125 (fun _ h => h)).keep u129 (fun _ h => h))
 have nSL : gS ≠ gL := Acc.neA D133 hcL.1 (by decide) (by omega) (by omega)
 refine t_field Try.underlying47 rfl Try.sizeOf45 (3) rfl rfl rfl rfl ?_
 have B134 := (B127.kx u129)
 refine t_st (vs := [.slice aoL R.lo.length cL]) Try.sizeOf45 rfl rfl rfl B134 rfl rfl rfl rfl (fun w135 sw135 B137 u136 => ?_)
 have zu136 := u136.size
 have B137 : Blk w135 bk2 47 [.slice aoH R.hl.length cH, .slice aoS R.sl.length cS, .slice R.la R.ld.length R.lc, .slice aoL R.lo.length cL, .slice R.ea R.se.length R.ec] := B137
 refine t_nil' (hK121 _ _ (c_seq fun K139 hK139 => (c_region (t_bslice (ps := []) (cs := []) (e := 97) rfl rfl ⟨rfl, rfl⟩ (fun w => by kernel_rfl) (fun bk140 w141 ebk140 sbk140 B142 u143 => ?_)))))
 have zu143 := u143.size
 have E144 := ((E126.nx u129).next u136 (fun i hi h => by omega)).nx u143
 refine t_assign rfl rfl rfl (t_nil' (hK139 _ _ (c_seq fun K145 hK145 => (c_seq fun K146 hK146 => (c_region (t_field Try.underlying41 rfl Try.sizeOf39 (0) rfl rfl rfl rfl ?_))))))
 have B147 := ((((((((B9.kx u15).kx u98).keep u114 (by omega)).keep u118 (by omega)).kx u125).kx u129).keep u136 (by omega)).kx u143)
 refine t_load Try.isAgg39 rfl rfl rfl (B147.get rfl) (t_nil' (hK146 _ _ (c_block (c_seq fun K148 hK148 => (c_region (t_cmp rfl rfl rfl rfl rfl (t_samehd (v := .bool false) rfl (t_assign rfl rfl rfl (t_nil' (hK148 _ _ (c_cond_f rfl (c_seq fun K149 hK149 => (c_seq fun K150 hK150 => (c_region (t_cmp rfl rfl rfl rfl rfl (t_samehd (v := .bool false) rfl (t_assign rfl rfl rfl (t_nil' (hK150 _ _ (c_cond_f rfl (c_region (t_cmp rfl rfl rfl rfl rfl (t_samehd (v := .bool false) rfl ?_)))))))))))))))))))))))
 refine t_assign rfl rfl rfl (t_nil' (hK149 _ _ (c_cond_f rfl (c_seq fun K151 hK151 => (c_region (t_cmp rfl rfl rfl rfl rfl (t_samehd (v := .bool true) rfl (t_assign rfl rfl rfl (t_nil' (hK151 _ _ (c_cond_t rfl ?_)))))))))))
 have B152 := (B137.kx u143)
 refine c_drawnS follows 16 12 [some (71, some (.pointer (some ⟨bk2, 1, none⟩))), some (72, some (.slice aoS R.sl.length cS)), some (73, some (.pointer (some ⟨bk7, 4, none⟩))), some (74, some (.int .i64 x.to)), some (75, none), some (76, some (.pointer (some ⟨bk2, 4, none⟩))), some (77, some (.slice R.ea R.se.length R.ec)), some (78, none), some (79, some (.pointer (some ⟨bk7, 7, none⟩))), some (80, some (.int .i64 x.sn)), some (81, none), some (82, none)] [[],[0],[],[2],[],[],[5],[4,6],[],[8],[9],[7,10,7],[1,3,0,1,2,3,7,11],[12,11,0,1,2,3,7,11],[0,1,2,3,4,5,6,7,8,9,10,11,12,13],[14,11,13,0,1,2,3,4,5,6,7,8,9,10,11,12,13]] (fun D ρ w => Upd (fun _ => False) w141 w ∧ (D 4 = true → ∃ bE, ρ 4 = .slice (some ⟨bE, 0, none⟩) 0 0 ∧ (D 7 = false → (Blk w bE 3 [] ∧ w141.heap.size ≤ bE))) ∧ (D 7 = true → ∃ aoC gC cC, ρ 7 = .slice aoC ((R.se).length) cC ∧ (D 11 = false → Acc encI 1 3 w141.heap.size w aoC gC cC R.se)) ∧ (D 10 = true → ∃ bV, ρ 10 = .slice (some ⟨bV, 0, none⟩) 1 1 ∧ (D 11 = false → (Blk w bV 3 [.int .i64 x.sn] ∧ w141.heap.size ≤ bV))) ∧ (D 11 = true → ∃ aoP gP cP, ρ 11 = .slice aoP ((R.se ++ [x.sn]).length) cP ∧ (Sl encI 1 w aoP gP 0 (R.se ++ [x.sn]) ∧ w141.heap.size ≤ gP))) rfl rfl rfl rfl (by kernel_rfl) (by kernel_rfl) (by kernel_rfl) ⟨(Upd.drew _).to, (fun h => by cases h), (fun h => by cases h), (fun h => by cases h), (fun h => by cases h)⟩ ⟨?_, ?_, ?_, ?_, ?_, ?_, ?_, ?_, ?_, ?_, ?_, ?_, trivial⟩ ?_
 · exact pzf Try.underlying47 rfl Try.sizeOf43 (1) rfl rfl rfl rfl rfl fun _ _ _ h => h
 · exact fun D ρ w153 hcD hnD hdD hW => ⟨_, kf_fr [71], fun Lr => t_load Try.isAgg43 rfl rfl rfl ((B152.kx hW.1).get rfl) (dz rfl hW)⟩
 · exact pzf Try.underlying41 rfl Try.sizeOf3 (4) rfl rfl rfl rfl rfl fun _ _ _ h => h
 · exact fun D ρ w161 hcD hnD hdD hW => ⟨_, kf_fr [73], fun Lr => t_load Try.isAgg3 rfl rfl rfl ((B147.kx hW.1).get rfl) (dz rfl hW)⟩
 ·
  intro D ρ w169 hcD hnD hdD hW
  obtain ⟨u170, F171, F172, F173, F174⟩ := hW
  have zu170 := u170.size
  refine ⟨[], trivial, fun Lr => ?_⟩
  refine t_bslice (ps := []) (cs := []) (e := 3) rfl rfl ⟨rfl, rfl⟩ (fun w => by kernel_rfl) (fun bE w176 ebE sbE B178 u177 => ?_)
  have zu177 := u177.size
  exact dzn rfl ⟨(u170.next u177 (fun _ _ h => h.elim)), (fun _ => ⟨bE, rfl, fun _ => ⟨B178, by omega⟩⟩), (fun h => absurd ((hcD.late 7 hnD rfl).symm.trans h) (by decide)), (fun h => by obtain ⟨bV, e, hB⟩ := F173 h; exact ⟨bV, e, fun h2 => ⟨((hB h2).1.keep u177 (fun h => h)), (hB h2).2⟩⟩), (fun h => absurd ((hcD.late 11 (hcD.late 7 hnD rfl) rfl).symm.trans h) (by decide))⟩
 · exact pzf Try.underlying47 rfl Try.sizeOf45 (4) rfl rfl rfl rfl rfl fun _ _ _ h => h
 · exact fun D ρ w180 hcD hnD hdD hW => ⟨_, kf_fr [76], fun Lr => t_load Try.isAgg45 rfl rfl rfl ((B152.kx hW.1).get rfl) (dz rfl hW)⟩
 ·
  intro D ρ w188 hcD hnD hdD hW
  obtain ⟨u189, F190, F191, F192, F193⟩ := hW
  have zu189 := u189.size
  obtain ⟨bE, e195, H196⟩ := F190 (hdD 4 rfl)
  have H197 := H196 hnD
  have agebE := H197.2
  have ltbE := H197.1.lt
  refine ⟨[(75, .slice (some ⟨bE, 0, none⟩) 0 0), (77, .slice R.ea R.se.length R.ec)], ⟨fi 4 rfl rfl e195.symm, fi 6 rfl rfl rfl, trivial⟩, fun Lr => ?_⟩
  refine t_copyE (enc := encI) (z := .int .i64 0) (bytes := 8) (k := 1) (ys := R.se) Try.underlying45 (by kernel_rfl) rfl (by decide) (fun _ => rfl) (by intro x; simp [encI, Value.oneCell']) rfl rfl rfl rfl H197.1 (hR.seals.keep (E144.nx u189) (fun _ h => h)) (by omega) (by decide) (fun aoC gC cC w198 A200 u199 geC => ?_)
  have zu199 := u199.size
  exact dzn rfl ⟨(u189.next u199 (fun _ _ h => h.elim)), (fun h => by obtain ⟨bE, e, _⟩ := F190 h; exact ⟨bE, e, fun h => by cases h⟩), (fun _ => ⟨aoC, gC, cC, rfl, fun _ => A200.rebase (by omega) (by omega)⟩), (fun h => by obtain ⟨bV, e, hB⟩ := F192 h; exact ⟨bV, e, fun h2 => ⟨((hB h2).1.keep u199 (fun h => h)), (hB h2).2⟩⟩), (fun h => absurd ((hcD.late 11 hnD rfl).symm.trans h) (by decide))⟩
 · exact pzf Try.underlying41 rfl Try.sizeOf3 (7) rfl rfl rfl rfl rfl fun _ _ _ h => h
 · exact fun D ρ w202 hcD hnD hdD hW => ⟨_, kf_fr [79], fun Lr => t_load Try.isAgg3 rfl rfl rfl ((B147.kx hW.1).get rfl) (dz rfl hW)⟩
 ·
  intro D ρ w210 hcD hnD hdD hW
  obtain ⟨u211, F212, F213, F214, F215⟩ := hW
  have zu211 := u211.size
  refine ⟨_, kf_fr [80], fun Lr => ?_⟩
  refine t_bslice (ps := [(0, .int .i64 x.sn)]) (cs := [.int .i64 x.sn]) (e := 3) rfl rfl ⟨rfl, rfl⟩ (fun w => by kernel_rfl) (fun bV w217 ebV sbV B219 u218 => ?_)
  have zu218 := u218.size
  exact dzn rfl ⟨(u211.next u218 (fun _ _ h => h.elim)), (fun h => by obtain ⟨bE, e, hB⟩ := F212 h; exact ⟨bE, e, fun h2 => ⟨((hB h2).1.keep u218 (fun h => h)), (hB h2).2⟩⟩), (fun h => by obtain ⟨aoC, gC, cC, e, hB⟩ := F213 h; exact ⟨aoC, gC, cC, e, fun h2 => ((hB h2).keep u218 (fun _ h => h))⟩), (fun _ => ⟨bV, rfl, fun _ => ⟨B219, by omega⟩⟩), (fun h => absurd ((hcD.late 11 hnD rfl).symm.trans h) (by decide))⟩
 ·
  intro D ρ w221 hcD hnD hdD hW
  obtain ⟨u222, F223, F224, F225, F226⟩ := hW
  have zu222 := u222.size
  obtain ⟨aoC, gC, cC, e228, H229⟩ := F224 (hdD 7 rfl)
  have H230 := H229 hnD
  have ltC := H230.lt
  obtain ⟨bV, e231, H232⟩ := F225 (hdD 10 rfl)
  have H233 := H232 hnD
  have agebV := H233.2
  have ltbV := H233.1.lt
  refine ⟨[(78, .slice aoC ((R.se).length) cC), (81, .slice (some ⟨bV, 0, none⟩) 1 1)], ⟨fi 7 rfl rfl e228.symm, fi 10 rfl rfl e231.symm, trivial⟩, fun Lr => ?_⟩
  refine t_append (z := .int .i64 0) (bytes := 8) (k := 1) (base := w141.heap.size) x.sn Try.underlying45 (by kernel_rfl) rfl (by decide) (fun _ => rfl) (by intro x; simp [encI, Value.oneCell']) rfl rfl rfl rfl H230 H233.1 (by omega) (by omega) (by decide) (fun aoP gP cP w234 A236 u235 geP lnP => ?_)
  have zu235 := u235.size
  exact dzn rfl ⟨(u222.next u235 (fun i hi h => by omega)), (fun h => by obtain ⟨bE, e, _⟩ := F223 h; exact ⟨bE, e, fun h2 => absurd ((hdD 7 rfl).symm.trans h2) (by decide)⟩), (fun h => by obtain ⟨aoC, gC, cC, e, _⟩ := F224 h; exact ⟨aoC, gC, cC, e, fun h => by cases h⟩), (fun h => by obtain ⟨bV, e, _⟩ := F225 h; exact ⟨bV, e, fun h => by cases h⟩), (fun _ => ⟨aoP, gP, cP, rfl, ⟨A236.sl (fun _ => rfl), A236.base_le (by simp)⟩⟩)⟩
 intro ρ w238 hW
 obtain ⟨u239, F240, F241, F242, F243⟩ := hW
 have zu239 := u239.size
 obtain ⟨aoP, gP, cP, e248, H249⟩ := F243 rfl
 have ageP := H249.2
 refine t_weak [(2, .int .i64 ev), (3, .pointer (some ⟨bk2, 0, none⟩)), (4, .pointer (some ⟨bk7, 0, none⟩)), (6, .pointer (some ⟨bk12, 0, none⟩)), (7, .slice (some ⟨bk140, 0, none⟩) 0 0), (72, .slice aoS R.sl.length cS), (74, .int .i64 x.to), (82, .slice aoP ((R.se ++ [x.sn]).length) cP)] ⟨rfl, rfl, rfl, rfl, rfl, rfl, rfl, (look_nd (j := 11) rfl rfl rfl e248), trivial⟩ ?_
 have D250 := (((D133.keep u136 (fun hb => show ¬ (gS = bk2) by first | omega | assumption)).keep u143 (fun _ h => h)).keep u239 (fun _ h => h))
 have i251 : (x.to).toNat < R.sl.length := (by omega)
 refine t_index (j := (x.to).toNat) Try.underlying43 Try.sizeOf4 rfl rfl rfl rfl ((D250.sl (fun _ => rfl)).addr (by omega)) (by omega) i251 (t_storeA (vs := [.bool true]) (j := (x.to).toNat) (o' := 0) (k := 1) true (fun _ => rfl) Try.sizeOf4 rfl rfl (by omega) rfl D250 (by omega) rfl rfl (by decide) (by simp [Value.oneCell']) rfl (fun w252 R254 u253 => ?_))
 have zu253 := u253.size
 refine t_field Try.underlying47 rfl Try.sizeOf45 (4) rfl rfl rfl rfl ?_
 have B256 := ((B152.kx u239).keep u253 (by omega))
 refine t_st (vs := [.slice aoP ((R.se ++ [x.sn]).length) cP]) Try.sizeOf45 rfl rfl rfl B256 rfl rfl rfl rfl (fun w257 sw257 B259 u258 => ?_)
 have zu258 := u258.size
 have B259 : Blk w257 bk2 47 [.slice aoH R.hl.length cH, .slice aoS R.sl.length cS, .slice R.la R.ld.length R.lc, .slice aoL R.lo.length cL, .slice aoP ((R.se ++ [x.sn]).length) cP] := B259
 refine t_nil' (hK145 _ _ (c_seq fun K261 hK261 => (c_region (t_move rfl rfl rfl (t_move rfl rfl rfl ?_)))))
 have B262 := (((B142.kx u239).keep u253 (by omega)).keep u258 (by omega))
 refine t_call own77 rfl rfl rfl rfl (with_c ([] : List HLay) (some ⟨bk140, 0, none⟩) bk140 0 0 ev _ (Sl.ofBlk (enc := encHLay) (xs := ([] : List HLay)) (fun _ => rfl) B262) (fun x hx => by cases hx) (by decide) (fun x hx => by cases hx)) (fun v263 w264 r266 => ?_)
 obtain ⟨az9, gz9, cz9, zs9, rfl, hzv9, hzs9, hza9, hzg9, u265⟩ := r266
 have zu265 := u265.size
 refine t_assign rfl rfl rfl (t_nil' (hK261 _ _ (c_seq fun K268 hK268 => (c_seq fun K269 hK269 => (c_region (t_field Try.underlying41 rfl Try.sizeOf39 (0) rfl rfl rfl rfl ?_))))))
 have B270 := ((((B147.kx u239).keep u253 (by omega)).keep u258 (by omega)).kx u265)
 refine t_load Try.isAgg39 rfl rfl rfl (B270.get rfl) (t_cmp rfl rfl rfl rfl rfl (t_samehd (v := .bool false) rfl (t_nil' (hK269 _ _ (c_cond_f rfl (c_skip (hK268 _ _ (c_seq fun K271 hK271 => (c_seq fun K272 hK272 => (c_region (t_field Try.underlying41 rfl Try.sizeOf39 (0) rfl rfl rfl rfl (t_load Try.isAgg39 rfl rfl rfl (B270.get rfl) (t_cmp rfl rfl rfl rfl rfl (t_samehd (v := .bool false) rfl (t_nil' (hK272 _ _ (c_cond_f rfl (c_skip (hK271 _ _ (c_seq fun K273 hK273 => (c_region ?_)))))))))))))))))))))
 have B274 := (B259.kx u265)
 refine t_loadN (vs := [.slice aoH R.hl.length cH, .slice aoS R.sl.length cS, .slice R.la R.ld.length R.lc, .slice aoL R.lo.length cL, .slice aoP ((R.se ++ [x.sn]).length) cP]) Try.isAgg47 Try.sizeOf47 rfl rfl rfl (B274.at.sub 0 5) rfl ?_
 have B275 := (((((((((((B14.kx u98).keep u114 (by omega)).keep u118 (by omega)).kx u125).kx u129).keep u136 (by omega)).kx u143).kx u239).keep u253 (by omega)).keep u258 (by omega)).kx u265)
 refine t_st (vs := [.slice aoH R.hl.length cH, .slice aoS R.sl.length cS, .slice R.la R.ld.length R.lc, .slice aoL R.lo.length cL, .slice aoP ((R.se ++ [x.sn]).length) cP]) Try.sizeOf47 rfl rfl rfl B275 rfl rfl rfl rfl (fun w276 sw276 B278 u277 => ?_)
 have zu277 := u277.size
 have E279 := ((((E144.nx u239).next u253 (fun i hi h => by omega)).next u258 (fun i hi h => by omega)).nx u265).next u277 (fun i hi h => by omega)
 have B278 : Blk w276 bk12 47 [.slice aoH R.hl.length cH, .slice aoS R.sl.length cS, .slice R.la R.ld.length R.lc, .slice aoL R.lo.length cL, .slice aoP ((R.se ++ [x.sn]).length) cP] := B278
 refine t_nil' (hK273 _ _ (c_ret (f_ret1 (v := .agg #[.slice aoH R.hl.length cH, .slice aoS R.sl.length cS, .slice R.la R.ld.length R.lc, .slice aoL R.lo.length cL, .slice aoP ((R.se ++ [x.sn]).length) cP]) Try.results50 ⟨_, _, rfl, run_loadVarN (vs := [.slice aoH R.hl.length cH, .slice aoS R.sl.length cS, .slice R.la R.ld.length R.lc, .slice aoL R.lo.length cL, .slice aoP ((R.se ++ [x.sn]).length) cP]) Try.isAgg47 Try.sizeOf47 rfl (B278.at.sub 0 5)⟩ ?_)))
 have D280 := (((((((D132.keep u136 (fun hb => show ¬ (gH = bk2) by first | omega | assumption)).keep u143 (fun _ h => h)).keep u239 (fun _ h => h)).keep u253 (fun hb => show ¬ (gH = gS) by first | omega | assumption)).keep u258 (fun hb => show ¬ (gH = bk2) by first | omega | assumption)).keep u265 (fun _ h => h)).keep u277 (fun hb => show ¬ (gH = bk12) by first | omega | assumption))
 have D281 := (((R254.keep u258 (fun hb => show ¬ (gS = bk2) by first | omega | assumption)).keep u265 (fun _ h => h)).keep u277 (fun hb => show ¬ (gS = bk12) by first | omega | assumption))
 have D282 := (((((((hcL.1.keep u136 (fun hb => show ¬ (gL = bk2) by first | omega | assumption)).keep u143 (fun _ h => h)).keep u239 (fun _ h => h)).keep u253 (fun hb => show ¬ (gL = gS) by first | omega | assumption)).keep u258 (fun hb => show ¬ (gL = bk2) by first | omega | assumption)).keep u265 (fun _ h => h)).keep u277 (fun hb => show ¬ (gL = bk12) by first | omega | assumption))
 have D283 := ((((H249.1.keep u253 (fun _ => by show ¬ (gP = gS); omega)).keep u258 (fun _ => by show ¬ (gP = bk2); omega)).keep u265 (fun _ h => h)).keep u277 (fun _ => by show ¬ (gP = bk12); omega))
 exact ⟨⟨aoH, gH, cH, R.hl, aoS, gS, cS, (R.sl.set (x.to).toNat true), R.la, R.lg, R.lc, R.ld, aoL, gL, cL, R.lo, aoP, gP, cP, (R.se ++ [x.sn])⟩, by simp [RG.cells], by rw [step4 hk]; rfl, ⟨D280.sl (fun _ => rfl), fun r hr => (hR.lays r hr).keep E279 (fun _ _ h => h), D281.sl (fun _ => rfl), hR.land.keep E279 (fun _ h => h), fun q hq => (hR.parts q hq).keep E279 (fun _ _ h => h), D282.sl (fun _ => rfl), D283⟩, by show ((R.se ++ [x.sn])).length ≤ R.se.length + 1; first | omega | simp, fun T hB hT => ⟨fun _ => hT gH (by omega), hB.lays, fun _ => hT gS (by omega), hB.land, hB.parts, fun _ => hT gL (by omega), fun _ => hT gP (by omega)⟩, E279⟩

set_option maxHeartbeats 2000000 in
theorem Step5_c (bs : List Bil) (caps : List Int) (mi : Int) (R : RG) (n : Nat) (x : Ev) (ev : Int) (w0 : World) (hR : RM w0 R) (hst : StOk bs caps n R.st) (hx : okEv x = true) (hev : EvOk bs caps R.st mi x) (hse : R.se.length ≤ 100000) (hn : n ≤ 100) (hk : x.kind = 5) :
    CallsV Try.prog 50 [.agg #[.slice R.ha R.hl.length R.hc, .slice R.sa R.sl.length R.sc, .slice R.la R.ld.length R.lc, .slice R.da R.lo.length R.dc, .slice R.ea R.se.length R.ec], .agg #[.int .i64 5, .int .i64 x.minute, .int .i64 x.bill, .int .i64 x.frm, .int .i64 x.to, .int .i64 x.tons, .int .i64 x.port, .int .i64 x.sn], .int .i64 ev] w0 (fun v w' => ∃ R' : RG, v = .agg R'.cells.toArray ∧ R'.st = stepF R.st x ev ∧ RM w' R' ∧ R'.se.length ≤ R.se.length + 1 ∧ (∀ T : Nat → Prop, RB T R → (∀ g, w0.heap.size ≤ g → T g) → RB T R') ∧ Ext w0 w') := by
 have hr := okEv_rng hx
 have hn1 : R.hl.length = caps.length := by have h := hst.hn; rwa [show R.st.hold.length = R.hl.length from List.length_map _] at h
 have hn2 : R.sl.length = caps.length := hst.sn
 have hn3 : R.lo.length = bs.length := hst.lsn
 have hn4 := hst.bn
 have hn5 := hst.h20
 have hfr := hev.frm (by simp [useF, hk])
 refine f_enter (N := 122) Try.func50 rfl rfl rfl (c_seq fun K1 hK1 => (c_region (t_box (cs := [.slice R.ha R.hl.length R.hc, .slice R.sa R.sl.length R.sc, .slice R.la R.ld.length R.lc, .slice R.da R.lo.length R.dc, .slice R.ea R.se.length R.ec]) rfl rfl rfl rfl (fun bk2 w3 ebk2 sbk2 B4 u5 => ?_))))
 have zu5 := u5.size
 refine t_box (cs := [.int .i64 5, .int .i64 x.minute, .int .i64 x.bill, .int .i64 x.frm, .int .i64 x.to, .int .i64 x.tons, .int .i64 x.port, .int .i64 x.sn]) rfl rfl rfl rfl (fun bk7 w8 ebk7 sbk7 B9 u10 => ?_)
 have zu10 := u10.size
 refine t_alloc (cs := [.slice none 0 0, .slice none 0 0, .slice none 0 0, .slice none 0 0, .slice none 0 0]) Try.zeroValue47 rfl rfl rfl (fun bk12 w13 ebk12 sbk12 B14 u15 => ?_)
 have zu15 := u15.size
 have E16 := (((Upd.refl (fun _ => False) w0).nx u5).nx u10).nx u15
 refine t_nil' (hK1 _ _ (c_seq fun K17 hK17 => ?_))
 have B18 := ((B4.kx u10).kx u15)
 refine c_drawnS follows 12 9 [some (8, none), some (9, some (.pointer (some ⟨bk2, 0, none⟩))), some (10, some (.slice R.ha R.hl.length R.hc)), some (11, none), some (12, none), some (13, some (.pointer (some ⟨bk2, 1, none⟩))), some (14, some (.slice R.sa R.sl.length R.sc)), some (15, none), some (16, some (.pointer (some ⟨bk2, 0, none⟩)))] [[],[],[1],[0,2],[],[],[5],[4,6,3],[0,1,2,3,5,6],[8,3,7,0,1,2,3,5,6],[0,1,2,3,4,5,6,7,8,9],[10,7,9,0,1,2,3,4,5,6,7,8,9]] (fun D ρ w => Upd (fun _ => False) w13 w ∧ (D 0 = true → ∃ bk19, ρ 0 = .slice (some ⟨bk19, 0, none⟩) 0 0 ∧ w13.heap.size ≤ bk19 ∧ Blk w bk19 36 []) ∧ (D 3 = true → ∃ aoH gH cH, ρ 3 = .slice aoH R.hl.length cH ∧ (Acc encRowL 1 36 w13.heap.size w aoH gH cH R.hl ∧ w13.heap.size ≤ gH)) ∧ (D 4 = true → ∃ bk25, ρ 4 = .slice (some ⟨bk25, 0, none⟩) 0 0 ∧ w13.heap.size ≤ bk25 ∧ Blk w bk25 4 []) ∧ (D 7 = true → ∃ aoS gS cS, ρ 7 = .slice aoS R.sl.length cS ∧ (Acc encBo 1 4 w13.heap.size w aoS gS cS R.sl ∧ w13.heap.size ≤ gS))) rfl rfl rfl rfl (by kernel_rfl) (by kernel_rfl) (by kernel_rfl) ⟨(Upd.drew _).to, (fun h => by cases h), (fun h => by cases h), (fun h => by cases h), (fun h => by cases h)⟩ ⟨?_, ?_, ?_, ?_, ?_, ?_, ?_, ?_, ?_, trivial⟩ ?_
 ·
  intro D ρ w31 hcD hnD hdD hW
  obtain ⟨u32, F33, F34, F35, F36⟩ := hW
  have zu32 := u32.size
  refine ⟨[], trivial, fun Lr => ?_⟩
  refine t_bslice (ps := []) (cs := []) (e := 36) rfl rfl ⟨rfl, rfl⟩ (fun w => by kernel_rfl) (fun bk38 w39 ebk38 sbk38 B40 u41 => ?_)
  have zu41 := u41.size
  exact dzn rfl ⟨(u32.next u41 (fun _ _ h => h.elim)), (fun _ => ⟨bk38, rfl, (by omega), (by show Blk w39 bk38 36 []; exact B40)⟩), (fun h => absurd ((hcD.late 3 hnD rfl).symm.trans h) (by decide)), (fun h => by obtain ⟨b, e, hge, hB⟩ := F35 h; exact ⟨b, e, hge, (hB.keep u41 (fun h => h))⟩), (fun h => absurd ((hcD.late 7 (hcD.late 3 hnD rfl) rfl).symm.trans h) (by decide))⟩
 · exact pzf Try.underlying47 rfl Try.sizeOf33 (0) rfl rfl rfl rfl rfl fun _ _ _ h => h
 · exact fun D ρ w43 hcD hnD hdD hW => ⟨_, kf_fr [9], fun Lr => t_load Try.isAgg33 rfl rfl rfl ((B18.kx hW.1).get rfl) (dz rfl hW)⟩
 ·
  intro D ρ w51 hcD hnD hdD hW
  obtain ⟨u52, F53, F54, F55, F56⟩ := hW
  have zu52 := u52.size
  obtain ⟨bk19, e58, gebk19, B59⟩ := F53 (hdD 0 rfl)
  refine ⟨[(8, .slice (some ⟨bk19, 0, none⟩) 0 0), (10, .slice R.ha R.hl.length R.hc)], ⟨fi 0 rfl rfl e58.symm, fi 2 rfl rfl rfl, trivial⟩, fun Lr => ?_⟩
  have ltbk19 := B59.lt
  refine t_copyE (enc := encRowL) (z := .slice none 0 0) (bytes := 24) (k := 1) (ys := R.hl) Try.underlying33 (by kernel_rfl) rfl (by decide) (fun _ => rfl) (by intro x; simp [encRowL, Value.oneCell']) rfl rfl rfl rfl B59 (hR.hold.keep (E16.nx u52) (fun _ h => h)) (by omega) (by decide) (fun aoH gH cH w60 A62 u61 gegH => ?_)
  have zu61 := u61.size
  exact dzn rfl ⟨(u52.next u61 (fun _ _ h => h.elim)), (fun h => by obtain ⟨b, e, hge, hB⟩ := F53 h; exact ⟨b, e, hge, (hB.keep u61 (fun h => h))⟩), (fun _ => ⟨aoH, gH, cH, rfl, ⟨A62.rebase (by omega) (by omega), by omega⟩⟩), (fun h => by obtain ⟨b, e, hge, hB⟩ := F55 h; exact ⟨b, e, hge, (hB.keep u61 (fun h => h))⟩), (fun h => absurd ((hcD.late 7 hnD rfl).symm.trans h) (by decide))⟩
 ·
  intro D ρ w64 hcD hnD hdD hW
  obtain ⟨u65, F66, F67, F68, F69⟩ := hW
  have zu65 := u65.size
  refine ⟨[], trivial, fun Lr => ?_⟩
  refine t_bslice (ps := []) (cs := []) (e := 4) rfl rfl ⟨rfl, rfl⟩ (fun w => by kernel_rfl) (fun bk71 w72 ebk71 sbk71 B73 u74 => ?_)
  have zu74 := u74.size
  exact dzn rfl ⟨(u65.next u74 (fun _ _ h => h.elim)), (fun h => by obtain ⟨b, e, hge, hB⟩ := F66 h; exact ⟨b, e, hge, (hB.keep u74 (fun h => h))⟩), (fun h => by obtain ⟨aoH, gH, cH, e, hB⟩ := F67 h; exact ⟨aoH, gH, cH, e, ⟨(hB.1.keep u74 (fun _ h => h)), hB.2⟩⟩), (fun _ => ⟨bk71, rfl, (by omega), (by show Blk w72 bk71 4 []; exact B73)⟩), (fun h => absurd ((hcD.late 7 hnD rfl).symm.trans h) (by decide))⟩
 · exact pzf Try.underlying47 rfl Try.sizeOf43 (1) rfl rfl rfl rfl rfl fun _ _ _ h => h
 · exact fun D ρ w76 hcD hnD hdD hW => ⟨_, kf_fr [13], fun Lr => t_load Try.isAgg43 rfl rfl rfl ((B18.kx hW.1).get rfl) (dz rfl hW)⟩
 ·
  intro D ρ w84 hcD hnD hdD hW
  obtain ⟨u85, F86, F87, F88, F89⟩ := hW
  have zu85 := u85.size
  obtain ⟨bk25, e91, gebk25, B92⟩ := F88 (hdD 4 rfl)
  refine ⟨[(12, .slice (some ⟨bk25, 0, none⟩) 0 0), (14, .slice R.sa R.sl.length R.sc)], ⟨fi 4 rfl rfl e91.symm, fi 6 rfl rfl rfl, trivial⟩, fun Lr => ?_⟩
  have ltbk25 := B92.lt
  refine t_copyE (enc := encBo) (z := .bool false) (bytes := 1) (k := 1) (ys := R.sl) Try.underlying43 (by kernel_rfl) rfl (by decide) (fun _ => rfl) (by intro x; simp [encBo, Value.oneCell']) rfl rfl rfl rfl B92 (hR.shut.keep (E16.nx u85) (fun _ h => h)) (by omega) (by decide) (fun aoS gS cS w93 A95 u94 gegS => ?_)
  have zu94 := u94.size
  exact dzn rfl ⟨(u85.next u94 (fun _ _ h => h.elim)), (fun h => by obtain ⟨b, e, hge, hB⟩ := F86 h; exact ⟨b, e, hge, (hB.keep u94 (fun h => h))⟩), (fun h => by obtain ⟨aoH, gH, cH, e, hB⟩ := F87 h; exact ⟨aoH, gH, cH, e, ⟨(hB.1.keep u94 (fun _ h => h)), hB.2⟩⟩), (fun h => by obtain ⟨b, e, hge, hB⟩ := F88 h; exact ⟨b, e, hge, (hB.keep u94 (fun h => h))⟩), (fun _ => ⟨aoS, gS, cS, rfl, ⟨A95.rebase (by omega) (by omega), by omega⟩⟩)⟩
 · exact pzf Try.underlying47 rfl Try.sizeOf33 (0) rfl rfl rfl rfl rfl fun _ _ _ h => h
 intro ρ w97 hW
 obtain ⟨u98, F99, F100, F101, F102⟩ := hW
 have zu98 := u98.size
 obtain ⟨bk19, e104, gebk19, B105⟩ := F99 rfl
 have B105 : Blk w97 bk19 36 [] := B105
 have lt_bk19 := B105.lt
 obtain ⟨aoH, gH, cH, e106, H107⟩ := F100 rfl
 have agegH := H107.2
 have lt_gH := H107.1.lt
 obtain ⟨bk25, e108, gebk25, B109⟩ := F101 rfl
 have B109 : Blk w97 bk25 4 [] := B109
 have lt_bk25 := B109.lt
 obtain ⟨aoS, gS, cS, e110, H111⟩ := F102 rfl
 have agegS := H111.2
 have lt_gS := H111.1.lt
 have nHS : gH ≠ gS := Acc.neA H107.1 H111.1 (by decide) (by omega) (by omega)
 refine t_weak [(2, .int .i64 ev), (3, .pointer (some ⟨bk2, 0, none⟩)), (4, .pointer (some ⟨bk7, 0, none⟩)), (6, .pointer (some ⟨bk12, 0, none⟩)), (11, .slice aoH R.hl.length cH), (15, .slice aoS R.sl.length cS), (16, .pointer (some ⟨bk2, 0, none⟩))] ⟨rfl, rfl, rfl, rfl, (look_nd (j := 3) rfl rfl rfl e106), (look_nd (j := 7) rfl rfl rfl e110), rfl, trivial⟩ ?_
 have B112 := (B18.kx u98)
 refine t_st (vs := [.slice aoH R.hl.length cH]) Try.sizeOf33 rfl rfl rfl B112 rfl rfl rfl rfl (fun w113 sw113 B115 u114 => ?_)
 have zu114 := u114.size
 have B115 : Blk w113 bk2 47 [.slice aoH R.hl.length cH, .slice R.sa R.sl.length R.sc, .slice R.la R.ld.length R.lc, .slice R.da R.lo.length R.dc, .slice R.ea R.se.length R.ec] := B115
 refine t_field Try.underlying47 rfl Try.sizeOf43 (1) rfl rfl rfl rfl (t_st (vs := [.slice aoS R.sl.length cS]) Try.sizeOf43 rfl rfl rfl B115 rfl rfl rfl rfl (fun w117 sw117 B119 u118 => ?_))
 have zu118 := u118.size
 have B119 : Blk w117 bk2 47 [.slice aoH R.hl.length cH, .slice aoS R.sl.length cS, .slice R.la R.ld.length R.lc, .slice R.da R.lo.length R.dc, .slice R.ea R.se.length R.ec] := B119
 refine t_nil' (hK17 _ _ (c_seq fun K121 hK121 => (c_region (t_bslice (ps := []) (cs := []) (e := 3) rfl rfl ⟨rfl, rfl⟩ (fun w => by kernel_rfl) (fun bk122 w123 ebk122 sbk122 B124 u125 => ?_)))))
 have zu125 := u125.size
 have E126 := (((E16.nx u98).next u114 (fun i hi h => by omega)).next u118 (fun i hi h => by omega)).nx u125
 refine t_field Try.underlying47 rfl Try.sizeOf45 (3) rfl rfl rfl rfl ?_
 have B127 := (B119.kx u125)
 refine t_load Try.isAgg45 rfl rfl rfl (B127.get rfl) ?_
 have ltbk122 := B124.lt
 refine t_copyE (enc := encI) (z := .int .i64 0) (bytes := 8) (k := 1) (ys := R.lo) Try.underlying45 (by kernel_rfl) rfl (by decide) (fun _ => rfl) (by intro x; simp [encI, Value.oneCell']) rfl rfl rfl rfl B124 (hR.load.keep E126 (fun _ h => h)) (by omega) (by decide) (fun aoL gL cL w128 A130 u129 gegL => ?_)
 have zu129 := u129.size
 have hcL : (Acc encI 1 3 bk122 w128 aoL gL cL R.lo ∧ bk122 ≤ gL) := ⟨A130.rebase (by omega) (by omega), by omega⟩
 have agegL := hcL.2
 have lt_gL := hcL.1.lt
 have D132 := ((((H107.1.keep u114 (fun hb => show ¬ (gH = bk2) by first | omega | assumption)).keep u118 (fun hb => show ¬ (gH = bk2) by first | omega | assumption)).keep u125 (fun _ h => h)).keep u129 (fun _ h => h))
 have nHL : gH ≠ gL := Acc.neA D132 hcL.1 (by decide) (by omega) (by omega)
 have D133 := ((((H111.1.keep u114 (fun hb => show ¬ (gS = bk2) by first | omega | assumption)).keep u118 (fun hb => show ¬ (gS = bk2) by first | omega | assumption)).keep u125 (fun _ h => h)).keep u129 (fun _ h => h))
 have nSL : gS ≠ gL := Acc.neA D133 hcL.1 (by decide) (by omega) (by omega)
 refine t_field Try.underlying47 rfl Try.sizeOf45 (3) rfl rfl rfl rfl ?_
 have B134 := (B127.kx u129)
 refine t_st (vs := [.slice aoL R.lo.length cL]) Try.sizeOf45 rfl rfl rfl B134 rfl rfl rfl rfl (fun w135 sw135 B137 u136 => ?_)
 have zu136 := u136.size
 have B137 : Blk w135 bk2 47 [.slice aoH R.hl.length cH, .slice aoS R.sl.length cS, .slice R.la R.ld.length R.lc, .slice aoL R.lo.length cL, .slice R.ea R.se.length R.ec] := B137
 refine t_nil' (hK121 _ _ (c_seq fun K139 hK139 => (c_region (t_bslice (ps := []) (cs := []) (e := 97) rfl rfl ⟨rfl, rfl⟩ (fun w => by kernel_rfl) (fun bk140 w141 ebk140 sbk140 B142 u143 => ?_)))))
 have zu143 := u143.size
 refine t_assign rfl rfl rfl (t_nil' (hK139 _ _ (c_seq fun K145 hK145 => (c_seq fun K146 hK146 => (c_region (t_field Try.underlying41 rfl Try.sizeOf39 (0) rfl rfl rfl rfl ?_))))))
 have B147 := ((((((((B9.kx u15).kx u98).keep u114 (by omega)).keep u118 (by omega)).kx u125).kx u129).keep u136 (by omega)).kx u143)
 refine t_load Try.isAgg39 rfl rfl rfl (B147.get rfl) (t_nil' (hK146 _ _ (c_block (c_seq fun K148 hK148 => (c_region (t_cmp rfl rfl rfl rfl rfl (t_samehd (v := .bool false) rfl (t_assign rfl rfl rfl (t_nil' (hK148 _ _ (c_cond_f rfl (c_seq fun K149 hK149 => (c_seq fun K150 hK150 => (c_region (t_cmp rfl rfl rfl rfl rfl (t_samehd (v := .bool false) rfl (t_assign rfl rfl rfl (t_nil' (hK150 _ _ (c_cond_f rfl (c_region (t_cmp rfl rfl rfl rfl rfl (t_samehd (v := .bool false) rfl ?_)))))))))))))))))))))))
 refine t_assign rfl rfl rfl (t_nil' (hK149 _ _ (c_cond_f rfl (c_seq fun K151 hK151 => (c_region (t_cmp rfl rfl rfl rfl rfl (t_samehd (v := .bool false) rfl (t_assign rfl rfl rfl (t_nil' (hK151 _ _ (c_cond_f rfl (c_region (t_field Try.underlying47 rfl Try.sizeOf43 (1) rfl rfl rfl rfl ?_)))))))))))))
 have B152 := (B137.kx u143)
 refine t_load Try.isAgg43 rfl rfl rfl (B152.get rfl) (t_field Try.underlying41 rfl Try.sizeOf3 (3) rfl rfl rfl rfl (t_load Try.isAgg3 rfl rfl rfl (B147.get rfl) ?_))
 have D153 := ((D133.keep u136 (fun hb => show ¬ (gS = bk2) by first | omega | assumption)).keep u143 (fun _ h => h))
 have i154 : (x.frm).toNat < R.sl.length := (by omega)
 refine t_index (j := (x.frm).toNat) Try.underlying43 Try.sizeOf4 rfl rfl rfl rfl ((D153.sl (fun _ => rfl)).addr (by omega)) (by omega) i154 (t_storeA (vs := [.bool false]) (j := (x.frm).toNat) (o' := 0) (k := 1) false (fun _ => rfl) Try.sizeOf4 rfl rfl (by omega) rfl D153 (by omega) rfl rfl (by decide) (by simp [Value.oneCell']) rfl (fun w155 R157 u156 => ?_))
 have zu156 := u156.size
 refine t_nil' (hK145 _ _ (c_seq fun K159 hK159 => (c_region (t_move rfl rfl rfl (t_move rfl rfl rfl ?_)))))
 have B160 := (B142.keep u156 (by omega))
 refine t_call own77 rfl rfl rfl rfl (with_c ([] : List HLay) (some ⟨bk140, 0, none⟩) bk140 0 0 ev _ (Sl.ofBlk (enc := encHLay) (xs := ([] : List HLay)) (fun _ => rfl) B160) (fun x hx => by cases hx) (by decide) (fun x hx => by cases hx)) (fun v161 w162 r164 => ?_)
 obtain ⟨az9, gz9, cz9, zs9, rfl, hzv9, hzs9, hza9, hzg9, u163⟩ := r164
 have zu163 := u163.size
 refine t_assign rfl rfl rfl (t_nil' (hK159 _ _ (c_seq fun K166 hK166 => (c_seq fun K167 hK167 => (c_region (t_field Try.underlying41 rfl Try.sizeOf39 (0) rfl rfl rfl rfl ?_))))))
 have B168 := ((B147.keep u156 (by omega)).kx u163)
 refine t_load Try.isAgg39 rfl rfl rfl (B168.get rfl) (t_cmp rfl rfl rfl rfl rfl (t_samehd (v := .bool false) rfl (t_nil' (hK167 _ _ (c_cond_f rfl (c_skip (hK166 _ _ (c_seq fun K169 hK169 => (c_seq fun K170 hK170 => (c_region (t_field Try.underlying41 rfl Try.sizeOf39 (0) rfl rfl rfl rfl (t_load Try.isAgg39 rfl rfl rfl (B168.get rfl) (t_cmp rfl rfl rfl rfl rfl (t_samehd (v := .bool false) rfl (t_nil' (hK170 _ _ (c_cond_f rfl (c_skip (hK169 _ _ (c_seq fun K171 hK171 => (c_region ?_)))))))))))))))))))))
 have B172 := ((B152.keep u156 (by omega)).kx u163)
 refine t_loadN (vs := [.slice aoH R.hl.length cH, .slice aoS R.sl.length cS, .slice R.la R.ld.length R.lc, .slice aoL R.lo.length cL, .slice R.ea R.se.length R.ec]) Try.isAgg47 Try.sizeOf47 rfl rfl rfl (B172.at.sub 0 5) rfl ?_
 have B173 := (((((((((B14.kx u98).keep u114 (by omega)).keep u118 (by omega)).kx u125).kx u129).keep u136 (by omega)).kx u143).keep u156 (by omega)).kx u163)
 refine t_st (vs := [.slice aoH R.hl.length cH, .slice aoS R.sl.length cS, .slice R.la R.ld.length R.lc, .slice aoL R.lo.length cL, .slice R.ea R.se.length R.ec]) Try.sizeOf47 rfl rfl rfl B173 rfl rfl rfl rfl (fun w174 sw174 B176 u175 => ?_)
 have zu175 := u175.size
 have E177 := (((((E126.nx u129).next u136 (fun i hi h => by omega)).nx u143).next u156 (fun i hi h => by omega)).nx u163).next u175 (fun i hi h => by omega)
 have B176 : Blk w174 bk12 47 [.slice aoH R.hl.length cH, .slice aoS R.sl.length cS, .slice R.la R.ld.length R.lc, .slice aoL R.lo.length cL, .slice R.ea R.se.length R.ec] := B176
 refine t_nil' (hK171 _ _ (c_ret (f_ret1 (v := .agg #[.slice aoH R.hl.length cH, .slice aoS R.sl.length cS, .slice R.la R.ld.length R.lc, .slice aoL R.lo.length cL, .slice R.ea R.se.length R.ec]) Try.results50 ⟨_, _, rfl, run_loadVarN (vs := [.slice aoH R.hl.length cH, .slice aoS R.sl.length cS, .slice R.la R.ld.length R.lc, .slice aoL R.lo.length cL, .slice R.ea R.se.length R.ec]) Try.isAgg47 Try.sizeOf47 rfl (B176.at.sub 0 5)⟩ ?_)))
 have D178 := (((((D132.keep u136 (fun hb => show ¬ (gH = bk2) by first | omega | assumption)).keep u143 (fun _ h => h)).keep u156 (fun hb => show ¬ (gH = gS) by first | omega | assumption)).keep u163 (fun _ h => h)).keep u175 (fun hb => show ¬ (gH = bk12) by first | omega | assumption))
 have D179 := ((R157.keep u163 (fun _ h => h)).keep u175 (fun hb => show ¬ (gS = bk12) by first | omega | assumption))
 have D180 := (((((hcL.1.keep u136 (fun hb => show ¬ (gL = bk2) by first | omega | assumption)).keep u143 (fun _ h => h)).keep u156 (fun hb => show ¬ (gL = gS) by first | omega | assumption)).keep u163 (fun _ h => h)).keep u175 (fun hb => show ¬ (gL = bk12) by first | omega | assumption))
 exact ⟨⟨aoH, gH, cH, R.hl, aoS, gS, cS, (R.sl.set (x.frm).toNat false), R.la, R.lg, R.lc, R.ld, aoL, gL, cL, R.lo, R.ea, R.eg, R.ec, R.se⟩, by simp [RG.cells], by rw [step5 hk]; rfl, ⟨D178.sl (fun _ => rfl), fun r hr => (hR.lays r hr).keep E177 (fun _ _ h => h), D179.sl (fun _ => rfl), hR.land.keep E177 (fun _ h => h), fun q hq => (hR.parts q hq).keep E177 (fun _ _ h => h), D180.sl (fun _ => rfl), (hR.seals.keep E177 (fun _ h => h))⟩, by show (R.se).length ≤ R.se.length + 1; first | omega | simp, fun T hB hT => ⟨fun _ => hT gH (by omega), hB.lays, fun _ => hT gS (by omega), hB.land, hB.parts, fun _ => hT gL (by omega), hB.seals⟩, E177⟩

end Go.Proofs.Ytgkkgpenmppjcaa
