/-
  The reference's Step. Conditions: none.
-/
import Derived.Test.YtgkkgpenmppjcaaVB8
namespace Go.Proofs.Ytgkkgpenmppjcaa
open Go Go.RowKit

theorem map_setL {l : List RowL} {i : Nat} {r : RowL} : (l.set i r).map (fun r => r.xs.map HLay.v) = (l.map (fun r => r.xs.map HLay.v)).set i (r.xs.map HLay.v) := List.map_set
theorem FromL.lens {bs : List Bil} {caps : List Int} {n : Nat} {R : RG} (h : StOk bs caps n R.st) {i : Nat} (hi : i < R.hl.length) : ∀ x ∈ (nth R.hl i).xs, LayOk n x.v := fun x hx => h.tons _ (List.mem_map.2 ⟨_, nth_mem hi, rfl⟩) _ (List.mem_map.2 ⟨x, hx, rfl⟩)
/-- What was taken is of few layers and of short paths. -/
theorem tak_few {n : Nat} {xs zs : List HLay} {t : Int} (h : ∀ x ∈ xs, LayOk n x.v) (h0 : 0 ≤ t) (h1 : t ≤ sumT (xs.map HLay.v)) (h2 : t ≤ 1000000) (hz : zs.map HLay.v = (takV (xs.map HLay.v) t).2) : zs.length ≤ 1000000 ∧ ∀ z ∈ zs, z.v.path.length ≤ n := by
  obtain ⟨_, a, _, b⟩ := takV_spec (n := n) (l := xs.map HLay.v) (fun y hy => by obtain ⟨x, hx, rfl⟩ := List.mem_map.1 hy; exact h x hx) h0 h1
  rw [← hz] at a b
  have hl := sumT_len (l := zs.map HLay.v) (fun y hy => (b y hy).1)
  rw [List.length_map] at hl
  exact ⟨by omega, fun z hz => (b _ (List.mem_map.2 ⟨z, hz, rfl⟩)).2.2⟩
theorem parts_snoc {w : World} {ld : List LG} {x : LG} (h : ∀ q ∈ ld, LaysR w q.ao q.g q.xs) (hx : LaysR w x.ao x.g x.xs) : ∀ q ∈ ld ++ [x], LaysR w q.ao q.g q.xs := fun q hq => by
  rcases List.mem_append.1 hq with hq | hq
  · exact h q hq
  · have : q = x := by simpa using hq
    subst this; exact hx

set_option maxHeartbeats 2000000 in
theorem Step2_c (bs : List Bil) (caps : List Int) (mi : Int) (R : RG) (n : Nat) (x : Ev) (ev : Int) (w0 : World) (hR : RM w0 R) (hst : StOk bs caps n R.st) (hx : okEv x = true) (hev : EvOk bs caps R.st mi x) (hse : R.se.length ≤ 100000) (hn : n ≤ 100) (hk : x.kind = 2) :
    CallsV Try.prog 50 [.agg #[.slice R.ha R.hl.length R.hc, .slice R.sa R.sl.length R.sc, .slice R.la R.ld.length R.lc, .slice R.da R.lo.length R.dc, .slice R.ea R.se.length R.ec], .agg #[.int .i64 2, .int .i64 x.minute, .int .i64 x.bill, .int .i64 x.frm, .int .i64 x.to, .int .i64 x.tons, .int .i64 x.port, .int .i64 x.sn], .int .i64 ev] w0 (fun v w' => ∃ R' : RG, v = .agg R'.cells.toArray ∧ R'.st = stepF R.st x ev ∧ RM w' R' ∧ R'.se.length ≤ R.se.length + 1 ∧ (∀ T : Nat → Prop, RB T R → (∀ g, w0.heap.size ≤ g → T g) → RB T R') ∧ Ext w0 w') := by
 have hr := okEv_rng hx
 have hn1 : R.hl.length = caps.length := by have h := hst.hn; rwa [show R.st.hold.length = R.hl.length from List.length_map _] at h
 have hn2 : R.sl.length = caps.length := hst.sn
 have hn3 : R.lo.length = bs.length := hst.lsn
 have hn4 := hst.bn
 have hn5 := hst.h20
 have hfr := hev.frm (by simp [useF, hk])
 have hrf := row_few hst (i := (x.frm).toNat) (by omega)
 have hhas : x.tons ≤ sumT ((nth R.hl (x.frm).toNat).xs.map HLay.v) := by have h := hev.has (by simp [useF, hk]); rwa [show nth R.st.hold (x.frm).toNat = (nth R.hl (x.frm).toNat).xs.map HLay.v from nth_map (fun r : RowL => r.xs.map HLay.v) (by omega)] at h
 have hto := hev.to (by simp [useT, hk])
 have hne := hev.ne hk
 have hrw := row_few hst (i := (x.to).toNat) (by omega)
 refine f_enter (N := 122) Try.func50 rfl rfl rfl (c_seq fun K1 hK1 => (c_region (t_box (cs := [.slice R.ha R.hl.length R.hc, .slice R.sa R.sl.length R.sc, .slice R.la R.ld.length R.lc, .slice R.da R.lo.length R.dc, .slice R.ea R.se.length R.ec]) rfl rfl rfl rfl (fun bk2 w3 ebk2 sbk2 B4 u5 => ?_))))
 have zu5 := u5.size
 refine t_box (cs := [.int .i64 2, .int .i64 x.minute, .int .i64 x.bill, .int .i64 x.frm, .int .i64 x.to, .int .i64 x.tons, .int .i64 x.port, .int .i64 x.sn]) rfl rfl rfl rfl (fun bk7 w8 ebk7 sbk7 B9 u10 => ?_)
 have zu10 := u10.size
 refine t_alloc (cs := [.slice none 0 0, .slice none 0 0, .slice none 0 0, .slice none 0 0, .slice none 0 0]) Try.zeroValue47 rfl rfl rfl (fun bk12 w13 ebk12 sbk12 B14 u15 => ?_)
 have zu15 := u15.size
 have E16 := (((Upd.refl (fun _ => False) w0).nx u5).nx u10).nx u15
 refine t_nil' (hK1 _ _ (c_seq fun K17 hK17 => ?_))
 have B18 := ((B4.kx u10).kx u15)
 refine c_drawnS follows 12 9 [some (8, none), some (9, some (.pointer (some ⟨bk2, 0, none⟩))), some (10, some (.slice R.ha R.hl.length R.hc)), some (11, none), some (12, none), some (13, some (.pointer (some ⟨bk2, 1, none⟩))), some (14, some (.slice R.sa R.sl.length R.sc)), some (15, none), some (16, some (.pointer (some ⟨bk2, 0, none⟩)))] [[],[],[1],[0,2],[],[],[5],[4,6,3],[0,1,2,3,5,6],[8,3,7,0,1,2,3,5,6],[0,1,2,3,4,5,6,7,8,9],[10,7,9,0,1,2,3,4,5,6,7,8,9]] (fun D ρ w => Upd (fun _ => False) w13 w ∧ (D 0 = true → ∃ bk19, ρ 0 = .slice (some ⟨bk19, 0, none⟩) 0 0 ∧ w13.heap.size ≤ bk19 ∧ Blk w bk19 36 []) ∧ (D 3 = true → ∃ aoH gH cH, ρ 3 = .slice aoH R.hl.length cH ∧ (Acc encRowL 1 36 w13.heap.size w aoH gH cH R.hl ∧ w13.heap.size ≤ gH)) ∧ (D 4 = true → ∃ bk25, ρ 4 = .slice (some ⟨bk25, 0, none⟩) 0 0 ∧ w13.heap.size ≤ bk25 ∧ Blk w bk25 4 []) ∧ (D 7 = true → ∃ aoS gS cS, ρ 7 = .slice aoS R.sl.length cS ∧ (Acc encBo 1 4 w13.heap.size w aoS gS cS R.sl ∧ w13.heap.size ≤ gS))) rfl rfl rfl rfl (by kernel_rfl) (by kernel_rfl) (by kernel_rfl) ⟨(Upd.drew _).to, (fun h => by cases h), (fun h => by cases h), (fun h => by cases h), (fun h => by cases h)⟩ ⟨?_, ?_, ?_, ?_, ?_, ?_, ?_, ?_, ?_, trivial⟩ ?_
 ·
  intro D ρ w31 hcD hnD hdD hW
  obtain ⟨u32, F33, F34, F35, F36⟩ := hW
  have zu32 := u32.size
  refine ⟨[], trivial, fun Lr => ?_⟩
  refine t_bslice (ps := []) (cs := []) (e := 36) rfl rfl ⟨rfl, rfl⟩ (fun w => by kernel_rfl) (fun bk38 w39 ebk38 sbk38 B40 u41 => ?_)
  have zu41 := u41.size
  exact dzn rfl ⟨(u32.next u41 (fun _ _ h => h.elim)), (fun _ => ⟨bk38, rfl, (by omega), (by show Blk w39 bk38 36 []; exact B40)⟩), (fun h => absurd ((hcD.late 3 hnD rfl).symm.trans h) (by decide)), (fun h => by obtain ⟨b, e, hge, hB⟩ := F35 h; exact ⟨b, e, hge, (hB.keep u41 (fun h => h))⟩), (fun h => absurd ((hcD.late 7 (hcD.late 3 hnD rfl) rfl).symm.trans h) (by decide))⟩
 · exact pzf Try.underlying47 rfl Try.sizeOf33 (0) rfl rfl rfl rfl rfl fun _ _ _ h => h
 · exact fun D ρ w43 hcD hnD hdD hW => ⟨_, kf_fr [9], fun Lr => t_load Try.isAgg33 rfl rfl rfl ((B18.kx hW.1).get rfl) (dz rfl hW)⟩
 ·
  intro D ρ w51 hcD hnD hdD hW
  obtain ⟨u52, F53, F54, F55, F56⟩ := hW
  have zu52 := u52.size
  obtain ⟨bk19, e58, gebk19, B59⟩ := F53 (hdD 0 rfl)
  refine ⟨[(8, .slice (some ⟨bk19, 0, none⟩) 0 0), (10, .slice R.ha R.hl.length R.hc)], ⟨fi 0 rfl rfl e58.symm, fi 2 rfl rfl rfl, trivial⟩, fun Lr => ?_⟩
  have ltbk19 := B59.lt
  refine t_copyE (enc := encRowL) (z := .slice none 0 0) (bytes := 24) (k := 1) (ys := R.hl) Try.underlying33 (by kernel_rfl) rfl (by decide) (fun _ => rfl) (by intro x; simp [encRowL, Value.oneCell']) rfl rfl rfl rfl B59 (hR.hold.keep (E16.nx u52) (fun _ h => h)) (by omega) (by decide) (fun aoH gH cH w60 A62 u61 gegH => ?_)
  have zu61 := u61.size
  exact dzn rfl ⟨(u52.next u61 (fun _ _ h => h.elim)), (fun h => by obtain ⟨b, e, hge, hB⟩ := F53 h; exact ⟨b, e, hge, (hB.keep u61 (fun h => h))⟩), (fun _ => ⟨aoH, gH, cH, rfl, ⟨A62.rebase (by omega) (by omega), by omega⟩⟩), (fun h => by obtain ⟨b, e, hge, hB⟩ := F55 h; exact ⟨b, e, hge, (hB.keep u61 (fun h => h))⟩), (fun h => absurd ((hcD.late 7 hnD rfl).symm.trans h) (by decide))⟩
 ·
  intro D ρ w64 hcD hnD hdD hW
  obtain ⟨u65, F66, F67, F68, F69⟩ := hW
  have zu65 := u65.size
  refine ⟨[], trivial, fun Lr => ?_⟩
  refine t_bslice (ps := []) (cs := []) (e := 4) rfl rfl ⟨rfl, rfl⟩ (fun w => by kernel_rfl) (fun bk71 w72 ebk71 sbk71 B73 u74 => ?_)
  have zu74 := u74.size
  exact dzn rfl ⟨(u65.next u74 (fun _ _ h => h.elim)), (fun h => by obtain ⟨b, e, hge, hB⟩ := F66 h; exact ⟨b, e, hge, (hB.keep u74 (fun h => h))⟩), (fun h => by obtain ⟨aoH, gH, cH, e, hB⟩ := F67 h; exact ⟨aoH, gH, cH, e, ⟨(hB.1.keep u74 (fun _ h => h)), hB.2⟩⟩), (fun _ => ⟨bk71, rfl, (by omega), (by show Blk w72 bk71 4 []; exact B73)⟩), (fun h => absurd ((hcD.late 7 hnD rfl).symm.trans h) (by decide))⟩
 · exact pzf Try.underlying47 rfl Try.sizeOf43 (1) rfl rfl rfl rfl rfl fun _ _ _ h => h
 · exact fun D ρ w76 hcD hnD hdD hW => ⟨_, kf_fr [13], fun Lr => t_load Try.isAgg43 rfl rfl rfl ((B18.kx hW.1).get rfl) (dz rfl hW)⟩
 ·
  intro D ρ w84 hcD hnD hdD hW
  obtain ⟨u85, F86, F87, F88, F89⟩ := hW
  have zu85 := u85.size
  obtain ⟨bk25, e91, gebk25, B92⟩ := F88 (hdD 4 rfl)
  refine ⟨[(12, .slice (some ⟨bk25, 0, none⟩) 0 0), (14, .slice R.sa R.sl.length R.sc)], ⟨fi 4 rfl rfl e91.symm, fi 6 rfl rfl rfl, trivial⟩, fun Lr => ?_⟩
  have ltbk25 := B92.lt
  refine t_copyE (enc := encBo) (z := .bool false) (bytes := 1) (k := 1) (ys := R.sl) Try.underlying43 (by kernel_rfl) rfl (by decide) (fun _ => rfl) (by intro x; simp [encBo, Value.oneCell']) rfl rfl rfl rfl B92 (hR.shut.keep (E16.nx u85) (fun _ h => h)) (by omega) (by decide) (fun aoS gS cS w93 A95 u94 gegS => ?_)
  have zu94 := u94.size
  exact dzn rfl ⟨(u85.next u94 (fun _ _ h => h.elim)), (fun h => by obtain ⟨b, e, hge, hB⟩ := F86 h; exact ⟨b, e, hge, (hB.keep u94 (fun h => h))⟩), (fun h => by obtain ⟨aoH, gH, cH, e, hB⟩ := F87 h; exact ⟨aoH, gH, cH, e, ⟨(hB.1.keep u94 (fun _ h => h)), hB.2⟩⟩), (fun h => by obtain ⟨b, e, hge, hB⟩ := F88 h; exact ⟨b, e, hge, (hB.keep u94 (fun h => h))⟩), (fun _ => ⟨aoS, gS, cS, rfl, ⟨A95.rebase (by omega) (by omega), by omega⟩⟩)⟩
 · exact pzf Try.underlying47 rfl Try.sizeOf33 (0) rfl rfl rfl rfl rfl fun _ _ _ h => h
 intro ρ w97 hW
 obtain ⟨u98, F99, F100, F101, F102⟩ := hW
 have zu98 := u98.size
 obtain ⟨bk19, e104, gebk19, B105⟩ := F99 rfl
 have B105 : Blk w97 bk19 36 [] := B105
 have lt_bk19 := B105.lt
 obtain ⟨aoH, gH, cH, e106, H107⟩ := F100 rfl
 have agegH := H107.2
 have lt_gH := H107.1.lt
 obtain ⟨bk25, e108, gebk25, B109⟩ := F101 rfl
 have B109 : Blk w97 bk25 4 [] := B109
 have lt_bk25 := B109.lt
 obtain ⟨aoS, gS, cS, e110, H111⟩ := F102 rfl
 have agegS := H111.2
 have lt_gS := H111.1.lt
 have nHS : gH ≠ gS := Acc.neA H107.1 H111.1 (by decide) (by omega) (by omega)
 refine t_weak [(2, .int .i64 ev), (3, .pointer (some ⟨bk2, 0, none⟩)), (4, .pointer (some ⟨bk7, 0, none⟩)), (6, .pointer (some ⟨bk12, 0, none⟩)), (11, .slice aoH R.hl.length cH), (15, .slice aoS R.sl.length cS), (16, .pointer (some ⟨bk2, 0, none⟩))] ⟨rfl, rfl, rfl, rfl, (look_nd (j := 3) rfl rfl rfl e106), (look_nd (j := 7) rfl rfl rfl e110), rfl, trivial⟩ ?_
 have B112 := (B18.kx u98)
 refine t_st (vs := [.slice aoH R.hl.length cH]) Try.sizeOf33 rfl rfl rfl B112 rfl rfl rfl rfl (fun w113 sw113 B115 u114 => ?_)
 have zu114 := u114.size
 have B115 : Blk w113 bk2 47 [.slice aoH R.hl.length cH, .slice R.sa R.sl.length R.sc, .slice R.la R.ld.length R.lc, .slice R.da R.lo.length R.dc, .slice R.ea R.se.length R.ec] := B115
 refine t_field Try.underlying47 rfl Try.sizeOf43 (1) rfl rfl rfl rfl (t_st (vs := [.slice aoS R.sl.length cS]) Try.sizeOf43 rfl rfl rfl B115 rfl rfl rfl rfl (fun w117 sw117 B119 u118 => ?_))
 have zu118 := u118.size
 have B119 : Blk w117 bk2 47 [.slice aoH R.hl.length cH, .slice aoS R.sl.length cS, .slice R.la R.ld.length R.lc, .slice R.da R.lo.length R.dc, .slice R.ea R.se.length R.ec] := B119
 refine t_nil' (hK17 _ _ (c_seq fun K121 hK121 => (c_region (t_bslice (ps := []) (cs := []) (e := 3) rfl rfl ⟨rfl, rfl⟩ (fun w => by kernel_rfl) (fun bk122 w123 ebk122 sbk122 B124 u125 => ?_)))))
 have zu125 := u125.size
 have E126 := (((E16.nx u98).next u114 (fun i hi h => by omega)).next u118 (fun i hi h => by omega)).nx u125
 refine t_field Try.underlying47 rfl Try.sizeOf45 (3) rfl rfl rfl rfl ?_
 have B127 := (B119.kx u125)
 refine t_load Try.isAgg45 rfl rfl rfl (B127.get rfl) ?_
 have ltbk122 := B124.lt
 refine t_copyE (enc := encI) (z := .int .i64 0) (bytes := 8) (k := 1) (ys := R.lo) Try.underlying45 (by kernel_rfl) rfl (by decide) (fun _ => rfl) (by intro x; simp [encI, Value.oneCell']) rfl rfl rfl rfl B124 (hR.load.keep E126 (fun _ h => h)) (by omega) (by decide) (fun aoL gL cL w128 A130 u129 gegL => ?_)
 have zu129 := u129.size
 have hcL : (Acc encI 1 3 bk122 w128 aoL gL cL R.lo ∧ bk122 ≤ gL) := ⟨A130.rebase (by omega) (by omega), by omega⟩
 have agegL := hcL.2
 have lt_gL := hcL.1.lt
 have D132 := ((((H107.1.keep u114 (fun hb => show ¬ (gH = bk2) by first | omega | assumption)).keep u118 (fun hb => show ¬ (gH = bk2) by first | omega | assumption)).keep u125 (fun _ h => h)).keep u129 (fun _ h => h))
 have nHL : gH ≠ gL := Acc.neA D132 hcL.1 (by decide) (by omega) (by omega)
 have D133 := ((((H111.1.keep u114 (fun hb => show ¬ (gS = bk2) by first | omega | assumption)).keep u118 (fun hb => show ¬ (gS = bk2) by first | omega | assumption)).keep u125 (fun _ h => h)).keep u129 (fun _ h => h))
 have nSL : gS ≠ gL := Acc.neA D133 hcL.1 (by decide) (by omega) (by omega)
 refine t_field Try.underlying47 rfl Try.sizeOf45 (3) rfl rfl rfl rfl ?_
 have B134 := (B127.kx u129)
 refine t_st (vs := [.slice aoL R.lo.length cL]) Try.sizeOf45 rfl rfl rfl B134 rfl rfl rfl rfl (fun w135 sw135 B137 u136 => ?_)
 have zu136 := u136.size
 have B137 : Blk w135 bk2 47 [.slice aoH R.hl.length cH, .slice aoS R.sl.length cS, .slice R.la R.ld.length R.lc, .slice aoL R.lo.length cL, .slice R.ea R.se.length R.ec] := B137
 refine t_nil' (hK121 _ _ (c_seq fun K139 hK139 => (c_region (t_bslice (ps := []) (cs := []) (e := 97) rfl rfl ⟨rfl, rfl⟩ (fun w => by kernel_rfl) (fun bk140 w141 ebk140 sbk140 B142 u143 => ?_)))))
 have zu143 := u143.size
 have E144 := ((E126.nx u129).next u136 (fun i hi h => by omega)).nx u143
 refine t_assign rfl rfl rfl (t_nil' (hK139 _ _ (c_seq fun K145 hK145 => (c_seq fun K146 hK146 => (c_region (t_field Try.underlying41 rfl Try.sizeOf39 (0) rfl rfl rfl rfl ?_))))))
 have B147 := ((((((((B9.kx u15).kx u98).keep u114 (by omega)).keep u118 (by omega)).kx u125).kx u129).keep u136 (by omega)).kx u143)
 refine t_load Try.isAgg39 rfl rfl rfl (B147.get rfl) (t_nil' (hK146 _ _ (c_block (c_seq fun K148 hK148 => (c_region (t_cmp rfl rfl rfl rfl rfl (t_samehd (v := .bool false) rfl (t_assign rfl rfl rfl (t_nil' (hK148 _ _ (c_cond_f rfl (c_seq fun K149 hK149 => (c_seq fun K150 hK150 => (c_region (t_cmp rfl rfl rfl rfl rfl (t_samehd (v := .bool true) rfl (t_assign rfl rfl rfl (t_nil' (hK150 _ _ (c_cond_t rfl (c_skip (hK149 _ _ (c_cond_t rfl ?_)))))))))))))))))))))))
 have B151 := (B137.kx u143)
 have D152 := ((D132.keep u136 (fun hb => show ¬ (gH = bk2) by first | omega | assumption)).keep u143 (fun _ h => h))
 refine c_drawnS follows 19 18 [some (53, some (.pointer (some ⟨bk2, 0, none⟩))), some (54, some (.slice aoH R.hl.length cH)), some (55, some (.pointer (some ⟨bk7, 3, none⟩))), some (56, some (.int .i64 x.frm)), some (57, some (.pointer (some ⟨bk2, 0, none⟩))), some (58, some (.slice aoH R.hl.length cH)), some (59, some (.pointer (some ⟨bk7, 3, none⟩))), some (60, some (.int .i64 x.frm)), some (61, some (.pointer (some ⟨gH, 0 + (x.frm).toNat * 1, none⟩))), some (62, some (.slice ((nth R.hl ((x.frm).toNat)).ao) ((nth R.hl ((x.frm).toNat)).xs.length) ((nth R.hl ((x.frm).toNat)).cp))), some (63, some (.pointer (some ⟨bk7, 5, none⟩))), some (64, some (.int .i64 x.tons)), some (65, none), some (52, none), some (66, none), some (67, none), some (68, some (.pointer (some ⟨gH, 0 + (x.frm).toNat * 1, none⟩))), none] [[],[0],[],[2],[],[4],[],[6],[5,7],[8],[],[10],[9,11],[12],[13],[13],[1,3,0,1,2,3,4,5,6,7,8,9,10,11,12,13,14],[16,14,12,0,1,2,3,4,5,6,7,8,9,10,11,12,13,14],[15,17,0,1,2,3,4,5,6,7,8,9,10,11,12,13,14,15,16,17]] (fun D ρ w => Upd (fun i => i = gH) w141 w ∧ (D 12 = false → Acc encRowL 1 36 w13.heap.size w aoH gH cH R.hl) ∧ (D 12 = true → ∃ ao8 g8 c8 ys8 ao6 g6 c6 zs8, ρ 12 = .tuple #[.slice ao8 ys8.length c8, .slice ao6 zs8.length c6] ∧ ((ys8.map HLay.v = (takV ((nth R.hl (x.frm).toNat).xs.map HLay.v) x.tons).1 ∧ zs8.map HLay.v = (takV ((nth R.hl (x.frm).toNat).xs.map HLay.v) x.tons).2 ∧ Sl encHLay 3 w ao8 g8 0 ys8 ∧ Sl encHLay 3 w ao6 g6 0 zs8 ∧ FromL (nth R.hl (x.frm).toNat).xs ys8 ∧ FromL (nth R.hl (x.frm).toNat).xs zs8 ∧ w141.heap.size ≤ g8 ∧ w141.heap.size ≤ g6) ∧ Acc encRowL 1 36 w13.heap.size w aoH gH cH (bif D 17 then (R.hl.set (x.frm).toNat (⟨ao8, g8, c8, ys8⟩ : RowL)) else R.hl)) ∧ (D 13 = true → ρ 13 = .tuple #[.slice ao8 ys8.length c8, .slice ao6 zs8.length c6]) ∧ (D 14 = true → ρ 14 = .slice ao8 ys8.length c8) ∧ (D 15 = true → ρ 15 = .slice ao6 zs8.length c6))) rfl rfl rfl rfl (by kernel_rfl) (by kernel_rfl) (by kernel_rfl) ⟨(Upd.drew _).to, (fun _ => D152.keep (Upd.drew _) (fun _ h => h)), (fun h => by cases h)⟩ ⟨?_, ?_, ?_, ?_, ?_, ?_, ?_, ?_, ?_, ?_, ?_, ?_, ?_, ?_, ?_, ?_, ?_, ?_, trivial⟩ ?_
 · exact pzf Try.underlying47 rfl Try.sizeOf33 (0) rfl rfl rfl rfl rfl fun _ _ _ h => h
 · exact fun D ρ w161 hcD hnD hdD hW => ⟨_, kf_fr [53], fun Lr => t_load Try.isAgg33 rfl rfl rfl ((B151.keep hW.1 (by omega)).get rfl) (dz rfl hW)⟩
 · exact pzf Try.underlying41 rfl Try.sizeOf3 (3) rfl rfl rfl rfl rfl fun _ _ _ h => h
 · exact fun D ρ w168 hcD hnD hdD hW => ⟨_, kf_fr [55], fun Lr => t_load Try.isAgg3 rfl rfl rfl ((B147.keep hW.1 (by omega)).get rfl) (dz rfl hW)⟩
 · exact pzf Try.underlying47 rfl Try.sizeOf33 (0) rfl rfl rfl rfl rfl fun _ _ _ h => h
 ·
  intro D ρ w175 hcD hnD hdD hW
  obtain ⟨u176, N178, F177⟩ := hW
  have zu176 := u176.size
  have C180 := N178 (hcD.late 12 (hcD.late 9 (hcD.late 8 hnD rfl) rfl) rfl)
  refine ⟨_, kf_fr [57], fun Lr => ?_⟩
  have B181 := (B151.keep u176 (by omega))
  refine t_load Try.isAgg33 rfl rfl rfl (B181.get rfl) ?_
  exact dz rfl ⟨u176, N178, F177⟩
 · exact pzf Try.underlying41 rfl Try.sizeOf3 (3) rfl rfl rfl rfl rfl fun _ _ _ h => h
 ·
  intro D ρ w182 hcD hnD hdD hW
  obtain ⟨u183, N185, F184⟩ := hW
  have zu183 := u183.size
  have C187 := N185 (hcD.late 12 (hcD.late 9 (hcD.late 8 hnD rfl) rfl) rfl)
  refine ⟨_, kf_fr [59], fun Lr => ?_⟩
  have B188 := (B147.keep u183 (by omega))
  refine t_load Try.isAgg3 rfl rfl rfl (B188.get rfl) ?_
  exact dz rfl ⟨u183, N185, F184⟩
 ·
  intro D ρ w189 hcD hnD hdD hW
  obtain ⟨u190, N192, F191⟩ := hW
  have zu190 := u190.size
  have C194 := N192 (hcD.late 12 (hcD.late 9 hnD rfl) rfl)
  refine ⟨_, kf_fr [58, 60], fun Lr => ?_⟩
  have i195 : (x.frm).toNat < R.hl.length := (by omega)
  refine t_index (j := (x.frm).toNat) Try.underlying33 Try.sizeOf36 rfl rfl rfl rfl ((C194.sl (fun _ => rfl)).addr (by omega)) (by omega) i195 ?_
  exact dz rfl ⟨u190, N192, F191⟩
 ·
  intro D ρ w196 hcD hnD hdD hW
  obtain ⟨u197, N199, F198⟩ := hW
  have zu197 := u197.size
  have C201 := N199 (hcD.late 12 hnD rfl)
  refine ⟨_, kf_fr [61], fun Lr => ?_⟩
  refine t_load Try.isAgg36 rfl rfl rfl (((C201.sl (fun _ => rfl)).at_ ((x.frm).toNat) (by omega)) 0 _ rfl) ?_
  exact dz rfl ⟨u197, N199, F198⟩
 · exact pzf Try.underlying41 rfl Try.sizeOf3 (5) rfl rfl rfl rfl rfl fun _ _ _ h => h
 ·
  intro D ρ w202 hcD hnD hdD hW
  obtain ⟨u203, N205, F204⟩ := hW
  have zu203 := u203.size
  have C207 := N205 (hcD.late 12 hnD rfl)
  refine ⟨_, kf_fr [63], fun Lr => ?_⟩
  have B208 := (B147.keep u203 (by omega))
  refine t_load Try.isAgg3 rfl rfl rfl (B208.get rfl) ?_
  exact dz rfl ⟨u203, N205, F204⟩
 ·
  intro D ρ w209 hcD hnD hdD hW
  obtain ⟨u210, N212, F211⟩ := hW
  have zu210 := u210.size
  have E213 := E144.next u210 (fun i hi h => by omega)
  have C214 := N212 hnD
  refine ⟨_, kf_fr [62, 64], fun Lr => ?_⟩
  refine t_call own76 rfl rfl rfl rfl (taken_c (nth R.hl (x.frm).toNat).xs ((nth R.hl ((x.frm).toNat)).ao) (nth R.hl (x.frm).toNat).g 0 ((nth R.hl ((x.frm).toNat)).cp) x.tons _ ((hR.lays (nth R.hl ((x.frm).toNat)) (nth_mem (by omega))).1.keep E213 (fun _ h => h)) (fun q hq => ((hR.lays _ (nth_mem (by omega))).2 q hq).keep E213 (fun _ h => h)) hrf.1 (fun q hq => ⟨(FromL.lens hst (by omega) q hq).1, (FromL.lens hst (by omega) q hq).2.1⟩) (by omega) hhas (by omega)) (fun v215 w216 r218 => ?_)
  obtain ⟨ao8, g8, c8, ys8, ao6, g6, c6, zs8, rfl, hy1, hz1, hy2, hz2, hfy, hfz, hg8, hg6, u217⟩ := r218
  have zu217 := u217.size
  have dN := (hcD.late 17 hnD rfl)
  have D220 := (C214.keep u217 (fun _ h => h))
  exact dzn rfl ⟨(u210.next u217 (fun _ _ h => h.elim)), (fun h => by cases h), (fun _ => ⟨ao8, g8, c8, ys8, ao6, g6, c6, zs8, rfl, ⟨⟨hy1, hz1, hy2.1, hz2.1, hfy, hfz, by omega, by omega⟩, (by show Acc encRowL 1 36 w13.heap.size w216 aoH gH cH (bif D 17 then (R.hl.set (x.frm).toNat (⟨ao8, g8, c8, ys8⟩ : RowL)) else R.hl); simpa only [dN, cond_false] using D220)⟩, (fun h => absurd ((hcD.late 13 hnD rfl).symm.trans h) (by decide)), (fun h => absurd ((hcD.late 14 (hcD.late 13 hnD rfl) rfl).symm.trans h) (by decide)), (fun h => absurd ((hcD.late 15 (hcD.late 13 hnD rfl) rfl).symm.trans h) (by decide))⟩)⟩
 ·
  intro D ρ w221 hcD hnD hdD hW
  obtain ⟨u222, N224, F223⟩ := hW
  have zu222 := u222.size
  obtain ⟨ao8, g8, c8, ys8, ao6, g6, c6, zs8, e227, H228, k229, k230, k231⟩ := F223 (hdD 12 rfl)
  obtain ⟨hy1, hz1, hy2, hz2, hfy, hfz, hg8, hg6⟩ := id H228.1
  have dN := (hcD.late 17 hnD rfl)
  have C226 : Acc encRowL 1 36 w13.heap.size w221 aoH gH cH R.hl := by have h := H228.2; simpa only [dN, cond_false] using h
  refine ⟨[(65, .tuple #[.slice ao8 ys8.length c8, .slice ao6 zs8.length c6])], ⟨fi 12 rfl rfl e227.symm, trivial⟩, fun Lr => ?_⟩
  refine t_move rfl rfl rfl ?_
  exact dzn rfl ⟨u222, N224, (fun _ => ⟨ao8, g8, c8, ys8, ao6, g6, c6, zs8, e227, H228, (fun _ => rfl), k230, k231⟩)⟩
 ·
  intro D ρ w232 hcD hnD hdD hW
  obtain ⟨u233, N235, F234⟩ := hW
  have zu233 := u233.size
  obtain ⟨ao8, g8, c8, ys8, ao6, g6, c6, zs8, e238, H239, k240, k241, k242⟩ := F234 (hcD 13 (hdD 13 rfl) 12 (memB_iff.1 rfl))
  obtain ⟨hy1, hz1, hy2, hz2, hfy, hfz, hg8, hg6⟩ := id H239.1
  have dN := (hcD.late 17 hnD rfl)
  have C237 : Acc encRowL 1 36 w13.heap.size w232 aoH gH cH R.hl := by have h := H239.2; simpa only [dN, cond_false] using h
  refine ⟨[(52, .tuple #[.slice ao8 ys8.length c8, .slice ao6 zs8.length c6])], ⟨fi 13 rfl rfl (k240 (hdD 13 rfl)).symm, trivial⟩, fun Lr => ?_⟩
  refine t_extract rfl rfl rfl rfl ?_
  exact dzn rfl ⟨u233, N235, (fun _ => ⟨ao8, g8, c8, ys8, ao6, g6, c6, zs8, e238, H239, k240, (fun _ => rfl), k242⟩)⟩
 ·
  intro D ρ w243 hcD hnD hdD hW
  obtain ⟨u244, N246, F245⟩ := hW
  have zu244 := u244.size
  obtain ⟨ao8, g8, c8, ys8, ao6, g6, c6, zs8, e249, H250, k251, k252, k253⟩ := F245 (hcD 13 (hdD 13 rfl) 12 (memB_iff.1 rfl))
  obtain ⟨hy1, hz1, hy2, hz2, hfy, hfz, hg8, hg6⟩ := id H250.1
  refine ⟨[(52, .tuple #[.slice ao8 ys8.length c8, .slice ao6 zs8.length c6])], ⟨fi 13 rfl rfl (k251 (hdD 13 rfl)).symm, trivial⟩, fun Lr => ?_⟩
  refine t_extract rfl rfl rfl rfl ?_
  exact dzn rfl ⟨u244, N246, (fun _ => ⟨ao8, g8, c8, ys8, ao6, g6, c6, zs8, e249, H250, k251, k252, (fun _ => rfl)⟩)⟩
 ·
  intro D ρ w254 hcD hnD hdD hW
  obtain ⟨u255, N257, F256⟩ := hW
  have zu255 := u255.size
  obtain ⟨ao8, g8, c8, ys8, ao6, g6, c6, zs8, e260, H261, k262, k263, k264⟩ := F256 (hdD 12 rfl)
  obtain ⟨hy1, hz1, hy2, hz2, hfy, hfz, hg8, hg6⟩ := id H261.1
  have dN := (hcD.late 17 hnD rfl)
  have C259 : Acc encRowL 1 36 w13.heap.size w254 aoH gH cH R.hl := by have h := H261.2; simpa only [dN, cond_false] using h
  refine ⟨_, kf_fr [54, 56], fun Lr => ?_⟩
  have i265 : (x.frm).toNat < R.hl.length := (by omega)
  refine t_index (j := (x.frm).toNat) Try.underlying33 Try.sizeOf36 rfl rfl rfl rfl ((C259.sl (fun _ => rfl)).addr (by omega)) (by omega) i265 ?_
  exact dz rfl ⟨u255, N257, F256⟩
 ·
  intro D ρ w266 hcD hnD hdD hW
  obtain ⟨u267, N269, F268⟩ := hW
  have zu267 := u267.size
  obtain ⟨ao8, g8, c8, ys8, ao6, g6, c6, zs8, e272, H273, k274, k275, k276⟩ := F268 (hdD 12 rfl)
  obtain ⟨hy1, hz1, hy2, hz2, hfy, hfz, hg8, hg6⟩ := id H273.1
  have dN := hnD
  have C271 : Acc encRowL 1 36 w13.heap.size w266 aoH gH cH R.hl := by have h := H273.2; simpa only [dN, cond_false] using h
  refine ⟨[(66, .slice ao8 ys8.length c8), (68, .pointer (some ⟨gH, 0 + (x.frm).toNat * 1, none⟩))], ⟨fi 14 rfl rfl (k275 (hdD 14 rfl)).symm, fi 16 rfl rfl rfl, trivial⟩, fun Lr => ?_⟩
  refine t_storeA (vs := [.slice ao8 ys8.length c8]) (j := (x.frm).toNat) (o' := 0) (k := 1) (⟨ao8, g8, c8, ys8⟩ : RowL) (fun _ => rfl) Try.sizeOf36 rfl rfl (by omega) rfl C271 (by first | omega | (simp only [List.length_set]; omega)) rfl rfl (by decide) (by simp [Value.oneCell']) rfl (fun w277 R279 u278 => ?_)
  have zu278 := u278.size
  exact dz0 rfl ⟨(u267.next u278 (fun i hi h => by omega)), (fun h => absurd ((hdD 12 rfl).symm.trans h) (by decide)), (fun _ => ⟨ao8, g8, c8, ys8, ao6, g6, c6, zs8, e272, ⟨⟨H273.1.1, H273.1.2.1, (H273.1.2.2.1.keep u278 (fun _ => by have h9 := H273.1.2.2.2.2.2.2.1; show ¬ (g8 = gH); omega)), (H273.1.2.2.2.1.keep u278 (fun _ => by have h9 := H273.1.2.2.2.2.2.2.2; show ¬ (g6 = gH); omega)), H273.1.2.2.2.2⟩, R279⟩, k274, k275, k276⟩)⟩
 intro ρ w281 hW
 obtain ⟨u282, _, F283⟩ := hW
 have zu282 := u282.size
 have E284 := E144.next u282 (fun i hi h => by omega)
 obtain ⟨ao8, g8, c8, ys8, ao6, g6, c6, zs8, e285, H286, k287, k288, k289⟩ := F283 rfl
 obtain ⟨hy1, hz1, hy2, hz2, hfy, hfz, hg8, hg6⟩ := id H286.1
 have C290 : Acc encRowL 1 36 w13.heap.size w281 aoH gH cH (R.hl.set (x.frm).toNat (⟨ao8, g8, c8, ys8⟩ : RowL)) := H286.2
 refine t_weak [(2, .int .i64 ev), (3, .pointer (some ⟨bk2, 0, none⟩)), (4, .pointer (some ⟨bk7, 0, none⟩)), (6, .pointer (some ⟨bk12, 0, none⟩)), (67, .slice ao6 zs8.length c6)] ⟨rfl, rfl, rfl, rfl, (look_nd (j := 15) rfl rfl rfl (k289 rfl)), trivial⟩ (t_assign rfl rfl rfl (t_nil' (hK145 _ _ (c_seq fun K291 hK291 => (c_region (t_move rfl rfl rfl (t_move rfl rfl rfl ?_)))))))
 obtain ⟨hzn, hzpl⟩ := tak_few (FromL.lens hst (show (x.frm).toNat < R.hl.length by omega)) (by omega) hhas (by omega) hz1
 refine t_call own77 rfl rfl rfl rfl (with_c zs8 ao6 g6 0 c6 ev _ hz2 (fun q hq => by obtain ⟨p, hp, e1, e2, e3⟩ := hfz q hq; rw [e1, e2, e3]; exact ((hR.lays _ (nth_mem (by omega))).2 p hp).keep E284 (fun _ h => h)) hzn (fun q hq => by have h := hzpl q hq; omega)) (fun v292 w293 r295 => ?_)
 obtain ⟨az9, gz9, cz9, zs9, rfl, hzv9, hzs9, hza9, hzg9, u294⟩ := r295
 have zu294 := u294.size
 have E296 := E284.nx u294
 have hzl9 : zs9.length = zs8.length := by have h := congrArg List.length hzv9; simpa using h
 refine t_assign rfl rfl rfl (t_nil' (hK291 _ _ (c_seq fun K297 hK297 => (c_seq fun K298 hK298 => (c_region (t_field Try.underlying41 rfl Try.sizeOf39 (0) rfl rfl rfl rfl ?_))))))
 have B299 := ((B147.keep u282 (by omega)).kx u294)
 refine t_load Try.isAgg39 rfl rfl rfl (B299.get rfl) (t_cmp rfl rfl rfl rfl rfl (t_samehd (v := .bool true) rfl (t_nil' (hK298 _ _ (c_cond_t rfl ?_)))))
 have hrow : (nth (R.hl.set (x.frm).toNat (⟨ao8, g8, c8, ys8⟩ : RowL)) (x.to).toNat) = nth R.hl (x.to).toNat := nth_set_neS (Ne.symm hne)
 have hrs : Sl encHLay 3 w0 (nth (R.hl.set (x.frm).toNat (⟨ao8, g8, c8, ys8⟩ : RowL)) (x.to).toNat).ao (nth (R.hl.set (x.frm).toNat (⟨ao8, g8, c8, ys8⟩ : RowL)) (x.to).toNat).g 0 (nth (R.hl.set (x.frm).toNat (⟨ao8, g8, c8, ys8⟩ : RowL)) (x.to).toNat).xs := by rw [hrow]; exact (hR.lays _ (nth_mem (by omega))).1
 have hrx : (nth (R.hl.set (x.frm).toNat (⟨ao8, g8, c8, ys8⟩ : RowL)) (x.to).toNat).xs.length ≤ 1000000 := by rw [hrow]; exact hrw.1
 have B300 := ((B151.keep u282 (by omega)).kx u294)
 refine c_drawnS follows 16 14 [some (91, some (.pointer (some ⟨bk2, 0, none⟩))), some (92, some (.slice aoH R.hl.length cH)), some (93, some (.pointer (some ⟨bk7, 4, none⟩))), some (94, some (.int .i64 x.to)), some (95, none), some (96, some (.pointer (some ⟨bk2, 0, none⟩))), some (97, some (.slice aoH R.hl.length cH)), some (98, some (.pointer (some ⟨bk7, 4, none⟩))), some (99, some (.int .i64 x.to)), some (100, some (.pointer (some ⟨gH, 0 + (x.to).toNat * 1, none⟩))), some (101, some (.slice ((nth (R.hl.set (x.frm).toNat (⟨ao8, g8, c8, ys8⟩ : RowL)) ((x.to).toNat)).ao) ((nth (R.hl.set (x.frm).toNat (⟨ao8, g8, c8, ys8⟩ : RowL)) ((x.to).toNat)).xs.length) ((nth (R.hl.set (x.frm).toNat (⟨ao8, g8, c8, ys8⟩ : RowL)) ((x.to).toNat)).cp))), some (102, none), some (103, some (.slice az9 zs9.length cz9)), some (104, none)] [[],[0],[],[2],[],[],[5],[],[7],[6,8],[9],[4,10],[],[11,12,11],[1,3,0,1,2,3,4,5,6,7,8,9,10,11,12,13],[14,13,13,0,1,2,3,4,5,6,7,8,9,10,11,12,13]] (fun D ρ w => Upd (fun _ => False) w293 w ∧ (D 4 = true → ∃ bF, ρ 4 = .slice (some ⟨bF, 0, none⟩) 0 0 ∧ (D 11 = false → (Blk w bF 97 [] ∧ w293.heap.size ≤ bF))) ∧ (D 11 = true → ∃ aoD gD cD, ρ 11 = .slice aoD ((nth (R.hl.set (x.frm).toNat (⟨ao8, g8, c8, ys8⟩ : RowL)) (x.to).toNat).xs.length) cD ∧ (D 13 = false → Acc encHLay 3 97 w293.heap.size w aoD gD cD (nth (R.hl.set (x.frm).toNat (⟨ao8, g8, c8, ys8⟩ : RowL)) (x.to).toNat).xs)) ∧ (D 13 = true → ∃ aoQ gQ cQ, ρ 13 = .slice aoQ (((nth (R.hl.set (x.frm).toNat (⟨ao8, g8, c8, ys8⟩ : RowL)) (x.to).toNat).xs ++ zs9).length) cQ ∧ (Sl encHLay 3 w aoQ gQ 0 ((nth (R.hl.set (x.frm).toNat (⟨ao8, g8, c8, ys8⟩ : RowL)) (x.to).toNat).xs ++ zs9) ∧ (0 < ((nth (R.hl.set (x.frm).toNat (⟨ao8, g8, c8, ys8⟩ : RowL)) (x.to).toNat).xs ++ zs9).length → w293.heap.size ≤ gQ)))) rfl rfl rfl rfl (by kernel_rfl) (by kernel_rfl) (by kernel_rfl) ⟨(Upd.drew _).to, (fun h => by cases h), (fun h => by cases h), (fun h => by cases h)⟩ ⟨?_, ?_, ?_, ?_, ?_, ?_, ?_, ?_, ?_, ?_, ?_, ?_, ?_, ?_, trivial⟩ ?_
 · exact pzf Try.underlying47 rfl Try.sizeOf33 (0) rfl rfl rfl rfl rfl fun _ _ _ h => h
 · exact fun D ρ w303 hcD hnD hdD hW => ⟨_, kf_fr [91], fun Lr => t_load Try.isAgg33 rfl rfl rfl ((B300.kx hW.1).get rfl) (dz rfl hW)⟩
 · exact pzf Try.underlying41 rfl Try.sizeOf3 (4) rfl rfl rfl rfl rfl fun _ _ _ h => h
 · exact fun D ρ w310 hcD hnD hdD hW => ⟨_, kf_fr [93], fun Lr => t_load Try.isAgg3 rfl rfl rfl ((B299.kx hW.1).get rfl) (dz rfl hW)⟩
 ·
  intro D ρ w317 hcD hnD hdD hW
  obtain ⟨u318, F319, F320, F321⟩ := hW
  have zu318 := u318.size
  refine ⟨[], trivial, fun Lr => ?_⟩
  refine t_bslice (ps := []) (cs := []) (e := 97) rfl rfl ⟨rfl, rfl⟩ (fun w => by kernel_rfl) (fun bF w323 ebF sbF B325 u324 => ?_)
  have zu324 := u324.size
  exact dzn rfl ⟨(u318.next u324 (fun _ _ h => h.elim)), (fun _ => ⟨bF, rfl, fun _ => ⟨B325, by omega⟩⟩), (fun h => absurd ((hcD.late 11 hnD rfl).symm.trans h) (by decide)), (fun h => absurd ((hcD.late 13 (hcD.late 11 hnD rfl) rfl).symm.trans h) (by decide))⟩
 · exact pzf Try.underlying47 rfl Try.sizeOf33 (0) rfl rfl rfl rfl rfl fun _ _ _ h => h
 · exact fun D ρ w327 hcD hnD hdD hW => ⟨_, kf_fr [96], fun Lr => t_load Try.isAgg33 rfl rfl rfl ((B300.kx hW.1).get rfl) (dz rfl hW)⟩
 · exact pzf Try.underlying41 rfl Try.sizeOf3 (4) rfl rfl rfl rfl rfl fun _ _ _ h => h
 · exact fun D ρ w334 hcD hnD hdD hW => ⟨_, kf_fr [98], fun Lr => t_load Try.isAgg3 rfl rfl rfl ((B299.kx hW.1).get rfl) (dz rfl hW)⟩
 ·
  intro D ρ w341 hcD hnD hdD hW
  obtain ⟨u342, F343, F344, F345⟩ := hW
  have zu342 := u342.size
  refine ⟨_, kf_fr [97, 99], fun Lr => ?_⟩
  have D347 := ((C290.keep u294 (fun _ h => h)).keep u342 (fun _ h => h))
  have i348 : (x.to).toNat < (R.hl.set (x.frm).toNat (⟨ao8, g8, c8, ys8⟩ : RowL)).length := (by first | omega | (simp only [List.length_set]; omega))
  refine t_index (j := (x.to).toNat) Try.underlying33 Try.sizeOf36 rfl rfl rfl rfl ((D347.sl (fun _ => rfl)).addr (by omega)) (by first | omega | (simp only [List.length_set]; omega)) (by omega) ?_
  exact dz rfl ⟨u342, F343, F344, F345⟩
 · exact fun D ρ w349 hcD hnD hdD hW => ⟨_, kf_fr [100], fun Lr => t_load Try.isAgg36 rfl rfl rfl (((((C290.keep u294 (fun _ h => h)).keep hW.1 (fun _ h => h)).sl (fun _ => rfl)).at_ ((x.to).toNat) (by first | omega | (simp only [List.length_set]; omega))) 0 _ rfl) (dz rfl hW)⟩
 ·
  intro D ρ w356 hcD hnD hdD hW
  obtain ⟨u357, F358, F359, F360⟩ := hW
  have zu357 := u357.size
  obtain ⟨bF, e362, H363⟩ := F358 (hdD 4 rfl)
  have H364 := H363 hnD
  have agebF := H364.2
  have ltbF := H364.1.lt
  refine ⟨[(95, .slice (some ⟨bF, 0, none⟩) 0 0), (101, .slice ((nth (R.hl.set (x.frm).toNat (⟨ao8, g8, c8, ys8⟩ : RowL)) ((x.to).toNat)).ao) ((nth (R.hl.set (x.frm).toNat (⟨ao8, g8, c8, ys8⟩ : RowL)) ((x.to).toNat)).xs.length) ((nth (R.hl.set (x.frm).toNat (⟨ao8, g8, c8, ys8⟩ : RowL)) ((x.to).toNat)).cp))], ⟨fi 4 rfl rfl e362.symm, fi 10 rfl rfl rfl, trivial⟩, fun Lr => ?_⟩
  refine t_copyE (enc := encHLay) (z := .agg #[.int .i64 0, .int .i64 0, .slice none 0 0]) (bytes := 40) (k := 3) (ys := (nth (R.hl.set (x.frm).toNat (⟨ao8, g8, c8, ys8⟩ : RowL)) (x.to).toNat).xs) Try.underlying36 (by kernel_rfl) rfl (by decide) (fun _ => rfl) (by intro x; simp [encHLay, Value.oneCell']) rfl rfl rfl rfl H364.1 (hrs.keep (E296.nx u357) (fun _ h => h)) (by omega) (by decide) (fun aoD gD cD w365 A367 u366 geD => ?_)
  have zu366 := u366.size
  exact dzn rfl ⟨(u357.next u366 (fun _ _ h => h.elim)), (fun h => by obtain ⟨bF, e, _⟩ := F358 h; exact ⟨bF, e, fun h => by cases h⟩), (fun _ => ⟨aoD, gD, cD, rfl, fun _ => A367.rebase (by omega) (by omega)⟩), (fun h => absurd ((hcD.late 13 hnD rfl).symm.trans h) (by decide))⟩
 · exact pz rfl rfl rfl rfl fun _ _ _ h => h
 ·
  intro D ρ w369 hcD hnD hdD hW
  obtain ⟨u370, F371, F372, F373⟩ := hW
  have zu370 := u370.size
  obtain ⟨aoD, gD, cD, e375, H376⟩ := F372 (hdD 11 rfl)
  have H377 := H376 hnD
  have ltD := H377.lt
  refine ⟨[(102, .slice aoD ((nth (R.hl.set (x.frm).toNat (⟨ao8, g8, c8, ys8⟩ : RowL)) (x.to).toNat).xs.length) cD), (103, .slice az9 zs9.length cz9)], ⟨fi 11 rfl rfl e375.symm, fi 12 rfl rfl rfl, trivial⟩, fun Lr => ?_⟩
  have D378 := (hzs9.1.keep u370 (fun _ h => h))
  refine t_appendAll (enc := encHLay) (z := .agg #[.int .i64 0, .int .i64 0, .slice none 0 0]) (bytes := 40) (k := 3) (base := w293.heap.size) (ys := zs9) Try.underlying36 (by kernel_rfl) rfl (by decide) (fun _ => rfl) (by intro x; simp [encHLay, Value.oneCell']) rfl rfl rfl rfl H377 D378 (by omega) (by omega) (by omega) (by decide) (fun aoQ gQ cQ w379 A381 u380 geQ lnQ => ?_)
  have zu380 := u380.size
  exact dzn rfl ⟨(u370.next u380 (fun i hi h => by omega)), (fun h => by obtain ⟨bF, e, _⟩ := F371 h; exact ⟨bF, e, fun h2 => absurd ((hdD 11 rfl).symm.trans h2) (by decide)⟩), (fun h => by obtain ⟨aoD, gD, cD, e, _⟩ := F372 h; exact ⟨aoD, gD, cD, e, fun h => by cases h⟩), (fun _ => ⟨aoQ, gQ, cQ, rfl, ⟨A381.sl (fun _ => rfl), fun hp => A381.base_le hp⟩⟩)⟩
 intro ρ w383 hW
 obtain ⟨u384, F385, F386, F387⟩ := hW
 have zu384 := u384.size
 obtain ⟨aoQ, gQ, cQ, e391, H392⟩ := F387 rfl
 have ageQ := H392.2
 refine t_weak [(2, .int .i64 ev), (3, .pointer (some ⟨bk2, 0, none⟩)), (4, .pointer (some ⟨bk7, 0, none⟩)), (6, .pointer (some ⟨bk12, 0, none⟩)), (7, .slice az9 zs9.length cz9), (92, .slice aoH R.hl.length cH), (94, .int .i64 x.to), (104, .slice aoQ (((nth (R.hl.set (x.frm).toNat (⟨ao8, g8, c8, ys8⟩ : RowL)) (x.to).toNat).xs ++ zs9).length) cQ)] ⟨rfl, rfl, rfl, rfl, rfl, rfl, rfl, (look_nd (j := 13) rfl rfl rfl e391), trivial⟩ ?_
 have D393 := ((C290.keep u294 (fun _ h => h)).keep u384 (fun _ h => h))
 have i394 : (x.to).toNat < (R.hl.set (x.frm).toNat (⟨ao8, g8, c8, ys8⟩ : RowL)).length := (by first | omega | (simp only [List.length_set]; omega))
 refine t_index (j := (x.to).toNat) Try.underlying33 Try.sizeOf36 rfl rfl rfl rfl ((D393.sl (fun _ => rfl)).addr (by omega)) (by first | omega | (simp only [List.length_set]; omega)) (by omega) (t_storeA (vs := [.slice aoQ (((nth (R.hl.set (x.frm).toNat (⟨ao8, g8, c8, ys8⟩ : RowL)) (x.to).toNat).xs ++ zs9).length) cQ]) (j := (x.to).toNat) (o' := 0) (k := 1) (⟨aoQ, gQ, cQ, (nth (R.hl.set (x.frm).toNat (⟨ao8, g8, c8, ys8⟩ : RowL)) (x.to).toNat).xs ++ zs9⟩ : RowL) (fun _ => rfl) Try.sizeOf36 rfl rfl (by omega) rfl D393 (by first | omega | (simp only [List.length_set]; omega)) rfl rfl (by decide) (by simp [Value.oneCell']) rfl (fun w395 R397 u396 => ?_))
 have zu396 := u396.size
 refine t_nil' (hK297 _ _ (c_seq fun K399 hK399 => (c_seq fun K400 hK400 => (c_region (t_field Try.underlying41 rfl Try.sizeOf39 (0) rfl rfl rfl rfl ?_)))))
 have B401 := ((B299.kx u384).keep u396 (by omega))
 refine t_load Try.isAgg39 rfl rfl rfl (B401.get rfl) (t_cmp rfl rfl rfl rfl rfl (t_samehd (v := .bool false) rfl (t_nil' (hK400 _ _ (c_cond_f rfl (c_skip (hK399 _ _ (c_seq fun K402 hK402 => (c_region ?_)))))))))
 have B403 := ((B300.kx u384).keep u396 (by omega))
 refine t_loadN (vs := [.slice aoH R.hl.length cH, .slice aoS R.sl.length cS, .slice R.la R.ld.length R.lc, .slice aoL R.lo.length cL, .slice R.ea R.se.length R.ec]) Try.isAgg47 Try.sizeOf47 rfl rfl rfl (B403.at.sub 0 5) rfl ?_
 have B404 := (((((((((((B14.kx u98).keep u114 (by omega)).keep u118 (by omega)).kx u125).kx u129).keep u136 (by omega)).kx u143).keep u282 (by omega)).kx u294).kx u384).keep u396 (by omega))
 refine t_st (vs := [.slice aoH R.hl.length cH, .slice aoS R.sl.length cS, .slice R.la R.ld.length R.lc, .slice aoL R.lo.length cL, .slice R.ea R.se.length R.ec]) Try.sizeOf47 rfl rfl rfl B404 rfl rfl rfl rfl (fun w405 sw405 B407 u406 => ?_)
 have zu406 := u406.size
 have B407 : Blk w405 bk12 47 [.slice aoH R.hl.length cH, .slice aoS R.sl.length cS, .slice R.la R.ld.length R.lc, .slice aoL R.lo.length cL, .slice R.ea R.se.length R.ec] := B407
 refine t_nil' (hK402 _ _ (c_ret (f_ret1 (v := .agg #[.slice aoH R.hl.length cH, .slice aoS R.sl.length cS, .slice R.la R.ld.length R.lc, .slice aoL R.lo.length cL, .slice R.ea R.se.length R.ec]) Try.results50 ⟨_, _, rfl, run_loadVarN (vs := [.slice aoH R.hl.length cH, .slice aoS R.sl.length cS, .slice R.la R.ld.length R.lc, .slice aoL R.lo.length cL, .slice R.ea R.se.length R.ec]) Try.isAgg47 Try.sizeOf47 rfl (B407.at.sub 0 5)⟩ ?_)))
 have D409 := (R397.keep u406 (fun hb => show ¬ (gH = bk12) by first | omega | assumption))
 have D410 := (((((((D133.keep u136 (fun hb => show ¬ (gS = bk2) by first | omega | assumption)).keep u143 (fun _ h => h)).keep u282 (fun hb => show ¬ (gS = gH) by first | omega | assumption)).keep u294 (fun _ h => h)).keep u384 (fun _ h => h)).keep u396 (fun hb => show ¬ (gS = gH) by first | omega | assumption)).keep u406 (fun hb => show ¬ (gS = bk12) by first | omega | assumption))
 have D411 := (((((((hcL.1.keep u136 (fun hb => show ¬ (gL = bk2) by first | omega | assumption)).keep u143 (fun _ h => h)).keep u282 (fun hb => show ¬ (gL = gH) by first | omega | assumption)).keep u294 (fun _ h => h)).keep u384 (fun _ h => h)).keep u396 (fun hb => show ¬ (gL = gH) by first | omega | assumption)).keep u406 (fun hb => show ¬ (gL = bk12) by first | omega | assumption))
 have D412 := ((((hy2.keep u294 (fun _ h => h)).keep u384 (fun _ h => h)).keep u396 (fun _ => by show ¬ (g8 = gH); omega)).keep u406 (fun _ => by show ¬ (g8 = bk12); omega))
 have hu9 := (((E296.nx u384).next u396 (fun i hi h => by omega)).next u406 (fun i hi h => by omega))
 have hl8 : LaysR w405 ao8 g8 ys8 := hfy.rows (hR.lays _ (nth_mem (by omega))).2 hu9 D412
 have D413 := ((H392.1.keep u396 (fun hp => by have h9 := H392.2 hp; show ¬ (gQ = gH); omega)).keep u406 (fun hp => by have h9 := H392.2 hp; show ¬ (gQ = bk12); omega))
 have hst9 : (⟨((R.hl.set (x.frm).toNat (⟨ao8, g8, c8, ys8⟩ : RowL)).set (x.to).toNat (⟨aoQ, gQ, cQ, (nth (R.hl.set (x.frm).toNat (⟨ao8, g8, c8, ys8⟩ : RowL)) (x.to).toNat).xs ++ zs9⟩ : RowL)).map (fun r => r.xs.map HLay.v), R.sl, R.ld.map (fun l => ⟨l.ev, l.port, l.xs.map HLay.v⟩), R.lo, R.se⟩ : Stt) = stepF R.st x ev := by
   rw [step2 hk, map_setL, map_setL, show nth R.st.hold (x.frm).toNat = (nth R.hl (x.frm).toNat).xs.map HLay.v from nth_map (fun r : RowL => r.xs.map HLay.v) (by omega), show nth R.st.hold (x.to).toNat = (nth R.hl (x.to).toNat).xs.map HLay.v from nth_map (fun r : RowL => r.xs.map HLay.v) (by omega)]
   simp only [List.map_append, hzv9, hy1, hz1, hrow]
   rfl
 have D414 := (fun z hz => ((fun z hz => ((fun z hz => (hzs9.2 z hz).keep u384 (fun _ h => h)) z hz).keep u396 (fun hp => by have h9 := hza9 z hz hp; have h8 := (hzs9.2 z hz).lt hp; show ¬ (z.b = gH); omega)) z hz).keep u406 (fun hp => by have h9 := hza9 z hz hp; have h8 := (hzs9.2 z hz).lt hp; show ¬ (z.b = bk12); omega))
 have hq9 := D413
 have hlr9 : LaysR w405 aoQ gQ ((nth (R.hl.set (x.frm).toNat (⟨ao8, g8, c8, ys8⟩ : RowL)) (x.to).toNat).xs ++ zs9) := lays_app (ao1 := (nth (R.hl.set (x.frm).toNat (⟨ao8, g8, c8, ys8⟩ : RowL)) (x.to).toNat).ao) (g1 := (nth (R.hl.set (x.frm).toNat (⟨ao8, g8, c8, ys8⟩ : RowL)) (x.to).toNat).g) (by rw [hrow]; exact (hR.lays _ (nth_mem (by omega))).keep hu9 (fun _ _ h => h)) D414 hq9
 exact ⟨⟨aoH, gH, cH, ((R.hl.set (x.frm).toNat (⟨ao8, g8, c8, ys8⟩ : RowL)).set (x.to).toNat (⟨aoQ, gQ, cQ, (nth (R.hl.set (x.frm).toNat (⟨ao8, g8, c8, ys8⟩ : RowL)) (x.to).toNat).xs ++ zs9⟩ : RowL)), aoS, gS, cS, R.sl, R.la, R.lg, R.lc, R.ld, aoL, gL, cL, R.lo, R.ea, R.eg, R.ec, R.se⟩, by simp [RG.cells], hst9, ⟨D409.sl (fun _ => rfl), lays_set (lays_set (fun r hr => (hR.lays r hr).keep hu9 (fun _ _ h => h)) hl8) hlr9, D410.sl (fun _ => rfl), hR.land.keep hu9 (fun _ h => h), fun q hq => (hR.parts q hq).keep hu9 (fun _ _ h => h), D411.sl (fun _ => rfl), hR.seals.keep hu9 (fun _ h => h)⟩, by show R.se.length ≤ R.se.length + 1; omega, fun T hB hT => ⟨fun _ => hT gH (by omega), all_set (all_set hB.lays (hfy.lb (hB.lays _ (nth_mem (by omega))) (fun _ => hT g8 (by omega)))) (LB.app (g := (nth (R.hl.set (x.frm).toNat (⟨ao8, g8, c8, ys8⟩ : RowL)) (x.to).toNat).g) (by rw [hrow]; exact hB.lays _ (nth_mem (by omega))) (fun z hz hp => hT z.b (by have h := hza9 z hz hp; omega)) (fun hp => hT gQ (by have h := ageQ hp; omega))), fun _ => hT gS (by omega), hB.land, hB.parts, fun _ => hT gL (by omega), hB.seals⟩, hu9⟩

set_option maxHeartbeats 2000000 in
theorem Step3_c (bs : List Bil) (caps : List Int) (mi : Int) (R : RG) (n : Nat) (x : Ev) (ev : Int) (w0 : World) (hR : RM w0 R) (hst : StOk bs caps n R.st) (hx : okEv x = true) (hev : EvOk bs caps R.st mi x) (hse : R.se.length ≤ 100000) (hn : n ≤ 100) (hk : x.kind = 3) :
    CallsV Try.prog 50 [.agg #[.slice R.ha R.hl.length R.hc, .slice R.sa R.sl.length R.sc, .slice R.la R.ld.length R.lc, .slice R.da R.lo.length R.dc, .slice R.ea R.se.length R.ec], .agg #[.int .i64 3, .int .i64 x.minute, .int .i64 x.bill, .int .i64 x.frm, .int .i64 x.to, .int .i64 x.tons, .int .i64 x.port, .int .i64 x.sn], .int .i64 ev] w0 (fun v w' => ∃ R' : RG, v = .agg R'.cells.toArray ∧ R'.st = stepF R.st x ev ∧ RM w' R' ∧ R'.se.length ≤ R.se.length + 1 ∧ (∀ T : Nat → Prop, RB T R → (∀ g, w0.heap.size ≤ g → T g) → RB T R') ∧ Ext w0 w') := by
 have hr := okEv_rng hx
 have hn1 : R.hl.length = caps.length := by have h := hst.hn; rwa [show R.st.hold.length = R.hl.length from List.length_map _] at h
 have hn2 : R.sl.length = caps.length := hst.sn
 have hn3 : R.lo.length = bs.length := hst.lsn
 have hn4 := hst.bn
 have hn5 := hst.h20
 have hfr := hev.frm (by simp [useF, hk])
 have hrf := row_few hst (i := (x.frm).toNat) (by omega)
 have hhas : x.tons ≤ sumT ((nth R.hl (x.frm).toNat).xs.map HLay.v) := by have h := hev.has (by simp [useF, hk]); rwa [show nth R.st.hold (x.frm).toNat = (nth R.hl (x.frm).toNat).xs.map HLay.v from nth_map (fun r : RowL => r.xs.map HLay.v) (by omega)] at h
 have hn6 : R.ld.length ≤ n := by have h := hst.ldn; rwa [show R.st.landed.length = R.ld.length from List.length_map _] at h
 refine f_enter (N := 122) Try.func50 rfl rfl rfl (c_seq fun K1 hK1 => (c_region (t_box (cs := [.slice R.ha R.hl.length R.hc, .slice R.sa R.sl.length R.sc, .slice R.la R.ld.length R.lc, .slice R.da R.lo.length R.dc, .slice R.ea R.se.length R.ec]) rfl rfl rfl rfl (fun bk2 w3 ebk2 sbk2 B4 u5 => ?_))))
 have zu5 := u5.size
 refine t_box (cs := [.int .i64 3, .int .i64 x.minute, .int .i64 x.bill, .int .i64 x.frm, .int .i64 x.to, .int .i64 x.tons, .int .i64 x.port, .int .i64 x.sn]) rfl rfl rfl rfl (fun bk7 w8 ebk7 sbk7 B9 u10 => ?_)
 have zu10 := u10.size
 refine t_alloc (cs := [.slice none 0 0, .slice none 0 0, .slice none 0 0, .slice none 0 0, .slice none 0 0]) Try.zeroValue47 rfl rfl rfl (fun bk12 w13 ebk12 sbk12 B14 u15 => ?_)
 have zu15 := u15.size
 have E16 := (((Upd.refl (fun _ => False) w0).nx u5).nx u10).nx u15
 refine t_nil' (hK1 _ _ (c_seq fun K17 hK17 => ?_))
 have B18 := ((B4.kx u10).kx u15)
 refine c_drawnS follows 12 9 [some (8, none), some (9, some (.pointer (some ⟨bk2, 0, none⟩))), some (10, some (.slice R.ha R.hl.length R.hc)), some (11, none), some (12, none), some (13, some (.pointer (some ⟨bk2, 1, none⟩))), some (14, some (.slice R.sa R.sl.length R.sc)), some (15, none), some (16, some (.pointer (some ⟨bk2, 0, none⟩)))] [[],[],[1],[0,2],[],[],[5],[4,6,3],[0,1,2,3,5,6],[8,3,7,0,1,2,3,5,6],[0,1,2,3,4,5,6,7,8,9],[10,7,9,0,1,2,3,4,5,6,7,8,9]] (fun D ρ w => Upd (fun _ => False) w13 w ∧ (D 0 = true → ∃ bk19, ρ 0 = .slice (some ⟨bk19, 0, none⟩) 0 0 ∧ w13.heap.size ≤ bk19 ∧ Blk w bk19 36 []) ∧ (D 3 = true → ∃ aoH gH cH, ρ 3 = .slice aoH R.hl.length cH ∧ (Acc encRowL 1 36 w13.heap.size w aoH gH cH R.hl ∧ w13.heap.size ≤ gH)) ∧ (D 4 = true → ∃ bk25, ρ 4 = .slice (some ⟨bk25, 0, none⟩) 0 0 ∧ w13.heap.size ≤ bk25 ∧ Blk w bk25 4 []) ∧ (D 7 = true → ∃ aoS gS cS, ρ 7 = .slice aoS R.sl.length cS ∧ (Acc encBo 1 4 w13.heap.size w aoS gS cS R.sl ∧ w13.heap.size ≤ gS))) rfl rfl rfl rfl (by kernel_rfl) (by kernel_rfl) (by kernel_rfl) ⟨(Upd.drew _).to, (fun h => by cases h), (fun h => by cases h), (fun h => by cases h), (fun h => by cases h)⟩ ⟨?_, ?_, ?_, ?_, ?_, ?_, ?_, ?_, ?_, trivial⟩ ?_
 ·
  intro D ρ w31 hcD hnD hdD hW
  obtain ⟨u32, F33, F34, F35, F36⟩ := hW
  have zu32 := u32.size
  refine ⟨[], trivial, fun Lr => ?_⟩
  refine t_bslice (ps := []) (cs := []) (e := 36) rfl rfl ⟨rfl, rfl⟩ (fun w => by kernel_rfl) (fun bk38 w39 ebk38 sbk38 B40 u41 => ?_)
  have zu41 := u41.size
  exact dzn rfl ⟨(u32.next u41 (fun _ _ h => h.elim)), (fun _ => ⟨bk38, rfl, (by omega), (by show Blk w39 bk38 36 []; exact B40)⟩), (fun h => absurd ((hcD.late 3 hnD rfl).symm.trans h) (by decide)), (fun h => by obtain ⟨b, e, hge, hB⟩ := F35 h; exact ⟨b, e, hge, (hB.keep u41 (fun h => h))⟩), (fun h => absurd ((hcD.late 7 (hcD.late 3 hnD rfl) rfl).symm.trans h) (by decide))⟩
 · exact pzf Try.underlying47 rfl Try.sizeOf33 (0) rfl rfl rfl rfl rfl fun _ _ _ h => h
 · exact fun D ρ w43 hcD hnD hdD hW => ⟨_, kf_fr [9], fun Lr => t_load Try.isAgg33 rfl rfl rfl ((B18.kx hW.1).get rfl) (dz rfl hW)⟩
 ·
  intro D ρ w51 hcD hnD hdD hW
  obtain ⟨u52, F53, F54, F55, F56⟩ := hW
  have zu52 := u52.size
  obtain ⟨bk19, e58, gebk19, B59⟩ := F53 (hdD 0 rfl)
  refine ⟨[(8, .slice (some ⟨bk19, 0, none⟩) 0 0), (10, .slice R.ha R.hl.length R.hc)], ⟨fi 0 rfl rfl e58.symm, fi 2 rfl rfl rfl, trivial⟩, fun Lr => ?_⟩
  have ltbk19 := B59.lt
  refine t_copyE (enc := encRowL) (z := .slice none 0 0) (bytes := 24) (k := 1) (ys := R.hl) Try.underlying33 (by kernel_rfl) rfl (by decide) (fun _ => rfl) (by intro x; simp [encRowL, Value.oneCell']) rfl rfl rfl rfl B59 (hR.hold.keep (E16.nx u52) (fun _ h => h)) (by omega) (by decide) (fun aoH gH cH w60 A62 u61 gegH => ?_)
  have zu61 := u61.size
  exact dzn rfl ⟨(u52.next u61 (fun _ _ h => h.elim)), (fun h => by obtain ⟨b, e, hge, hB⟩ := F53 h; exact ⟨b, e, hge, (hB.keep u61 (fun h => h))⟩), (fun _ => ⟨aoH, gH, cH, rfl, ⟨A62.rebase (by omega) (by omega), by omega⟩⟩), (fun h => by obtain ⟨b, e, hge, hB⟩ := F55 h; exact ⟨b, e, hge, (hB.keep u61 (fun h => h))⟩), (fun h => absurd ((hcD.late 7 hnD rfl).symm.trans h) (by decide))⟩
 ·
  intro D ρ w64 hcD hnD hdD hW
  obtain ⟨u65, F66, F67, F68, F69⟩ := hW
  have zu65 := u65.size
  refine ⟨[], trivial, fun Lr => ?_⟩
  refine t_bslice (ps := []) (cs := []) (e := 4) rfl rfl ⟨rfl, rfl⟩ (fun w => by kernel_rfl) (fun bk71 w72 ebk71 sbk71 B73 u74 => ?_)
  have zu74 := u74.size
  exact dzn rfl ⟨(u65.next u74 (fun _ _ h => h.elim)), (fun h => by obtain ⟨b, e, hge, hB⟩ := F66 h; exact ⟨b, e, hge, (hB.keep u74 (fun h => h))⟩), (fun h => by obtain ⟨aoH, gH, cH, e, hB⟩ := F67 h; exact ⟨aoH, gH, cH, e, ⟨(hB.1.keep u74 (fun _ h => h)), hB.2⟩⟩), (fun _ => ⟨bk71, rfl, (by omega), (by show Blk w72 bk71 4 []; exact B73)⟩), (fun h => absurd ((hcD.late 7 hnD rfl).symm.trans h) (by decide))⟩
 · exact pzf Try.underlying47 rfl Try.sizeOf43 (1) rfl rfl rfl rfl rfl fun _ _ _ h => h
 · exact fun D ρ w76 hcD hnD hdD hW => ⟨_, kf_fr [13], fun Lr => t_load Try.isAgg43 rfl rfl rfl ((B18.kx hW.1).get rfl) (dz rfl hW)⟩
 ·
  intro D ρ w84 hcD hnD hdD hW
  obtain ⟨u85, F86, F87, F88, F89⟩ := hW
  have zu85 := u85.size
  obtain ⟨bk25, e91, gebk25, B92⟩ := F88 (hdD 4 rfl)
  refine ⟨[(12, .slice (some ⟨bk25, 0, none⟩) 0 0), (14, .slice R.sa R.sl.length R.sc)], ⟨fi 4 rfl rfl e91.symm, fi 6 rfl rfl rfl, trivial⟩, fun Lr => ?_⟩
  have ltbk25 := B92.lt
  refine t_copyE (enc := encBo) (z := .bool false) (bytes := 1) (k := 1) (ys := R.sl) Try.underlying43 (by kernel_rfl) rfl (by decide) (fun _ => rfl) (by intro x; simp [encBo, Value.oneCell']) rfl rfl rfl rfl B92 (hR.shut.keep (E16.nx u85) (fun _ h => h)) (by omega) (by decide) (fun aoS gS cS w93 A95 u94 gegS => ?_)
  have zu94 := u94.size
  exact dzn rfl ⟨(u85.next u94 (fun _ _ h => h.elim)), (fun h => by obtain ⟨b, e, hge, hB⟩ := F86 h; exact ⟨b, e, hge, (hB.keep u94 (fun h => h))⟩), (fun h => by obtain ⟨aoH, gH, cH, e, hB⟩ := F87 h; exact ⟨aoH, gH, cH, e, ⟨(hB.1.keep u94 (fun _ h => h)), hB.2⟩⟩), (fun h => by obtain ⟨b, e, hge, hB⟩ := F88 h; exact ⟨b, e, hge, (hB.keep u94 (fun h => h))⟩), (fun _ => ⟨aoS, gS, cS, rfl, ⟨A95.rebase (by omega) (by omega), by omega⟩⟩)⟩
 · exact pzf Try.underlying47 rfl Try.sizeOf33 (0) rfl rfl rfl rfl rfl fun _ _ _ h => h
 intro ρ w97 hW
 obtain ⟨u98, F99, F100, F101, F102⟩ := hW
 have zu98 := u98.size
 obtain ⟨bk19, e104, gebk19, B105⟩ := F99 rfl
 have B105 : Blk w97 bk19 36 [] := B105
 have lt_bk19 := B105.lt
 obtain ⟨aoH, gH, cH, e106, H107⟩ := F100 rfl
 have agegH := H107.2
 have lt_gH := H107.1.lt
 obtain ⟨bk25, e108, gebk25, B109⟩ := F101 rfl
 have B109 : Blk w97 bk25 4 [] := B109
 have lt_bk25 := B109.lt
 obtain ⟨aoS, gS, cS, e110, H111⟩ := F102 rfl
 have agegS := H111.2
 have lt_gS := H111.1.lt
 have nHS : gH ≠ gS := Acc.neA H107.1 H111.1 (by decide) (by omega) (by omega)
 refine t_weak [(2, .int .i64 ev), (3, .pointer (some ⟨bk2, 0, none⟩)), (4, .pointer (some ⟨bk7, 0, none⟩)), (6, .pointer (some ⟨bk12, 0, none⟩)), (11, .slice aoH R.hl.length cH), (15, .slice aoS R.sl.length cS), (16, .pointer (some ⟨bk2, 0, none⟩))] ⟨rfl, rfl, rfl, rfl, (look_nd (j := 3) rfl rfl rfl e106), (look_nd (j := 7) rfl rfl rfl e110), rfl, trivial⟩ ?_
 have B112 := (B18.kx u98)
 refine t_st (vs := [.slice aoH R.hl.length cH]) Try.sizeOf33 rfl rfl rfl B112 rfl rfl rfl rfl (fun w113 sw113 B115 u114 => ?_)
 have zu114 := u114.size
 have B115 : Blk w113 bk2 47 [.slice aoH R.hl.length cH, .slice R.sa R.sl.length R.sc, .slice R.la R.ld.length R.lc, .slice R.da R.lo.length R.dc, .slice R.ea R.se.length R.ec] := B115
 refine t_field Try.underlying47 rfl Try.sizeOf43 (1) rfl rfl rfl rfl (t_st (vs := [.slice aoS R.sl.length cS]) Try.sizeOf43 rfl rfl rfl B115 rfl rfl rfl rfl (fun w117 sw117 B119 u118 => ?_))
 have zu118 := u118.size
 have B119 : Blk w117 bk2 47 [.slice aoH R.hl.length cH, .slice aoS R.sl.length cS, .slice R.la R.ld.length R.lc, .slice R.da R.lo.length R.dc, .slice R.ea R.se.length R.ec] := B119
 refine t_nil' (hK17 _ _ (c_seq fun K121 hK121 => (c_region (t_bslice (ps := []) (cs := []) (e := 3) rfl rfl ⟨rfl, rfl⟩ (fun w => by kernel_rfl) (fun bk122 w123 ebk122 sbk122 B124 u125 => ?_)))))
 have zu125 := u125.size
 have E126 := (((E16.nx u98).next u114 (fun i hi h => by omega)).next u118 (fun i hi h => by omega)).nx u125
 refine t_field Try.underlying47 rfl Try.sizeOf45 (3) rfl rfl rfl rfl ?_
 have B127 := (B119.kx u125)
 refine t_load Try.isAgg45 rfl rfl rfl (B127.get rfl) ?_
 have ltbk122 := B124.lt
 refine t_copyE (enc := encI) (z := .int .i64 0) (bytes := 8) (k := 1) (ys := R.lo) Try.underlying45 (by kernel_rfl) rfl (by decide) (fun _ => rfl) (by intro x; simp [encI, Value.oneCell']) rfl rfl rfl rfl B124 (hR.load.keep E126 (fun _ h => h)) (by omega) (by decide) (fun aoL gL cL w128 A130 u129 gegL => ?_)
 have zu129 := u129.size
 have hcL : (Acc encI 1 3 bk122 w128 aoL gL cL R.lo ∧ bk122 ≤ gL) := ⟨A130.rebase (by omega) (by omega), by omega⟩
 have agegL := hcL.2
 have lt_gL := hcL.1.lt
 have D132 := ((((H107.1.keep u114 (fun hb => show ¬ (gH = bk2) by first | omega | assumption)).keep u118 (fun hb => show ¬ (gH = bk2) by first | omega | assumption)).keep u125 (fun _ h => h)).keep u129 (fun _ h => h))
 have nHL : gH ≠ gL := Acc.neA D132 hcL.1 (by decide) (by omega) (by omega)
 have D133 := ((((H111.1.keep u114 (fun hb => show ¬ (gS = bk2) by first | omega | assumption)).keep u118 (fun hb => show ¬ (gS = bk2) by first | omega | assumption)).keep u125 (fun _ h => h)).keep u129 (fun _ h => h))
 have nSL : gS ≠ gL := Acc.neA D133 hcL.1 (by decide) (by omega) (by omega)
 refine t_field Try.underlying47 rfl Try.sizeOf45 (3) rfl rfl rfl rfl ?_
 have B134 := (B127.kx u129)
 refine t_st (vs := [.slice aoL R.lo.length cL]) Try.sizeOf45 rfl rfl rfl B134 rfl rfl rfl rfl (fun w135 sw135 B137 u136 => ?_)
 have zu136 := u136.size
 have B137 : Blk w135 bk2 47 [.slice aoH R.hl.length cH, .slice aoS R.sl.length cS, .slice R.la R.ld.length R.lc, .slice aoL R.lo.length cL, .slice R.ea R.se.length R.ec] := B137
 refine t_nil' (hK121 _ _ (c_seq fun K139 hK139 => (c_region (t_bslice (ps := []) (cs := []) (e := 97) rfl rfl ⟨rfl, rfl⟩ (fun w => by kernel_rfl) (fun bk140 w141 ebk140 sbk140 B142 u143 => ?_)))))
 have zu143 := u143.size
 have E144 := ((E126.nx u129).next u136 (fun i hi h => by omega)).nx u143
 refine t_assign rfl rfl rfl (t_nil' (hK139 _ _ (c_seq fun K145 hK145 => (c_seq fun K146 hK146 => (c_region (t_field Try.underlying41 rfl Try.sizeOf39 (0) rfl rfl rfl rfl ?_))))))
 have B147 := ((((((((B9.kx u15).kx u98).keep u114 (by omega)).keep u118 (by omega)).kx u125).kx u129).keep u136 (by omega)).kx u143)
 refine t_load Try.isAgg39 rfl rfl rfl (B147.get rfl) (t_nil' (hK146 _ _ (c_block (c_seq fun K148 hK148 => (c_region (t_cmp rfl rfl rfl rfl rfl (t_samehd (v := .bool false) rfl (t_assign rfl rfl rfl (t_nil' (hK148 _ _ (c_cond_f rfl (c_seq fun K149 hK149 => (c_seq fun K150 hK150 => (c_region (t_cmp rfl rfl rfl rfl rfl (t_samehd (v := .bool false) rfl (t_assign rfl rfl rfl (t_nil' (hK150 _ _ (c_cond_f rfl (c_region (t_cmp rfl rfl rfl rfl rfl (t_samehd (v := .bool true) rfl ?_)))))))))))))))))))))))
 refine t_assign rfl rfl rfl (t_nil' (hK149 _ _ (c_cond_t rfl ?_)))
 have B151 := (B137.kx u143)
 have D152 := ((D132.keep u136 (fun hb => show ¬ (gH = bk2) by first | omega | assumption)).keep u143 (fun _ h => h))
 refine c_drawnS follows 19 18 [some (53, some (.pointer (some ⟨bk2, 0, none⟩))), some (54, some (.slice aoH R.hl.length cH)), some (55, some (.pointer (some ⟨bk7, 3, none⟩))), some (56, some (.int .i64 x.frm)), some (57, some (.pointer (some ⟨bk2, 0, none⟩))), some (58, some (.slice aoH R.hl.length cH)), some (59, some (.pointer (some ⟨bk7, 3, none⟩))), some (60, some (.int .i64 x.frm)), some (61, some (.pointer (some ⟨gH, 0 + (x.frm).toNat * 1, none⟩))), some (62, some (.slice ((nth R.hl ((x.frm).toNat)).ao) ((nth R.hl ((x.frm).toNat)).xs.length) ((nth R.hl ((x.frm).toNat)).cp))), some (63, some (.pointer (some ⟨bk7, 5, none⟩))), some (64, some (.int .i64 x.tons)), some (65, none), some (52, none), some (66, none), some (67, none), some (68, some (.pointer (some ⟨gH, 0 + (x.frm).toNat * 1, none⟩))), none] [[],[0],[],[2],[],[4],[],[6],[5,7],[8],[],[10],[9,11],[12],[13],[13],[1,3,0,1,2,3,4,5,6,7,8,9,10,11,12,13,14],[16,14,12,0,1,2,3,4,5,6,7,8,9,10,11,12,13,14],[15,17,0,1,2,3,4,5,6,7,8,9,10,11,12,13,14,15,16,17]] (fun D ρ w => Upd (fun i => i = gH) w141 w ∧ (D 12 = false → Acc encRowL 1 36 w13.heap.size w aoH gH cH R.hl) ∧ (D 12 = true → ∃ ao8 g8 c8 ys8 ao6 g6 c6 zs8, ρ 12 = .tuple #[.slice ao8 ys8.length c8, .slice ao6 zs8.length c6] ∧ ((ys8.map HLay.v = (takV ((nth R.hl (x.frm).toNat).xs.map HLay.v) x.tons).1 ∧ zs8.map HLay.v = (takV ((nth R.hl (x.frm).toNat).xs.map HLay.v) x.tons).2 ∧ Sl encHLay 3 w ao8 g8 0 ys8 ∧ Sl encHLay 3 w ao6 g6 0 zs8 ∧ FromL (nth R.hl (x.frm).toNat).xs ys8 ∧ FromL (nth R.hl (x.frm).toNat).xs zs8 ∧ w141.heap.size ≤ g8 ∧ w141.heap.size ≤ g6) ∧ Acc encRowL 1 36 w13.heap.size w aoH gH cH (bif D 17 then (R.hl.set (x.frm).toNat (⟨ao8, g8, c8, ys8⟩ : RowL)) else R.hl)) ∧ (D 13 = true → ρ 13 = .tuple #[.slice ao8 ys8.length c8, .slice ao6 zs8.length c6]) ∧ (D 14 = true → ρ 14 = .slice ao8 ys8.length c8) ∧ (D 15 = true → ρ 15 = .slice ao6 zs8.length c6))) rfl rfl rfl rfl (by kernel_rfl) (by kernel_rfl) (by kernel_rfl) ⟨(Upd.drew _).to, (fun _ => D152.keep (Upd.drew _) (fun _ h => h)), (fun h => by cases h)⟩ ⟨?_, ?_, ?_, ?_, ?_, ?_, ?_, ?_, ?_, ?_, ?_, ?_, ?_, ?_, ?_, ?_, ?_, ?_, trivial⟩ ?_
 · exact pzf Try.underlying47 rfl Try.sizeOf33 (0) rfl rfl rfl rfl rfl fun _ _ _ h => h
 · exact fun D ρ w161 hcD hnD hdD hW => ⟨_, kf_fr [53], fun Lr => t_load Try.isAgg33 rfl rfl rfl ((B151.keep hW.1 (by omega)).get rfl) (dz rfl hW)⟩
 · exact pzf Try.underlying41 rfl Try.sizeOf3 (3) rfl rfl rfl rfl rfl fun _ _ _ h => h
 · exact fun D ρ w168 hcD hnD hdD hW => ⟨_, kf_fr [55], fun Lr => t_load Try.isAgg3 rfl rfl rfl ((B147.keep hW.1 (by omega)).get rfl) (dz rfl hW)⟩
 · exact pzf Try.underlying47 rfl Try.sizeOf33 (0) rfl rfl rfl rfl rfl fun _ _ _ h => h
 ·
  intro D ρ w175 hcD hnD hdD hW
  obtain ⟨u176, N178, F177⟩ := hW
  have zu176 := u176.size
  have C180 := N178 (hcD.late 12 (hcD.late 9 (hcD.late 8 hnD rfl) rfl) rfl)
  refine ⟨_, kf_fr [57], fun Lr => ?_⟩
  have B181 := (B151.keep u176 (by omega))
  refine t_load Try.isAgg33 rfl rfl rfl (B181.get rfl) ?_
  exact dz rfl ⟨u176, N178, F177⟩
 · exact pzf Try.underlying41 rfl Try.sizeOf3 (3) rfl rfl rfl rfl rfl fun _ _ _ h => h
 ·
  intro D ρ w182 hcD hnD hdD hW
  obtain ⟨u183, N185, F184⟩ := hW
  have zu183 := u183.size
  have C187 := N185 (hcD.late 12 (hcD.late 9 (hcD.late 8 hnD rfl) rfl) rfl)
  refine ⟨_, kf_fr [59], fun Lr => ?_⟩
  have B188 := (B147.keep u183 (by omega))
  refine t_load Try.isAgg3 rfl rfl rfl (B188.get rfl) ?_
  exact dz rfl ⟨u183, N185, F184⟩
 ·
  intro D ρ w189 hcD hnD hdD hW
  obtain ⟨u190, N192, F191⟩ := hW
  have zu190 := u190.size
  have C194 := N192 (hcD.late 12 (hcD.late 9 hnD rfl) rfl)
  refine ⟨_, kf_fr [58, 60], fun Lr => ?_⟩
  have i195 : (x.frm).toNat < R.hl.length := (by omega)
  refine t_index (j := (x.frm).toNat) Try.underlying33 Try.sizeOf36 rfl rfl rfl rfl ((C194.sl (fun _ => rfl)).addr (by omega)) (by omega) i195 ?_
  exact dz rfl ⟨u190, N192, F191⟩
 ·
  intro D ρ w196 hcD hnD hdD hW
  obtain ⟨u197, N199, F198⟩ := hW
  have zu197 := u197.size
  have C201 := N199 (hcD.late 12 hnD rfl)
  refine ⟨_, kf_fr [61], fun Lr => ?_⟩
  refine t_load Try.isAgg36 rfl rfl rfl (((C201.sl (fun _ => rfl)).at_ ((x.frm).toNat) (by omega)) 0 _ rfl) ?_
  exact dz rfl ⟨u197, N199, F198⟩
 · exact pzf Try.underlying41 rfl Try.sizeOf3 (5) rfl rfl rfl rfl rfl fun _ _ _ h => h
 ·
  intro D ρ w202 hcD hnD hdD hW
  obtain ⟨u203, N205, F204⟩ := hW
  have zu203 := u203.size
  have C207 := N205 (hcD.late 12 hnD rfl)
  refine ⟨_, kf_fr [63], fun Lr => ?_⟩
  have B208 := (B147.keep u203 (by omega))
  refine t_load Try.isAgg3 rfl rfl rfl (B208.get rfl) ?_
  exact dz rfl ⟨u203, N205, F204⟩
 ·
  intro D ρ w209 hcD hnD hdD hW
  obtain ⟨u210, N212, F211⟩ := hW
  have zu210 := u210.size
  have E213 := E144.next u210 (fun i hi h => by omega)
  have C214 := N212 hnD
  refine ⟨_, kf_fr [62, 64], fun Lr => ?_⟩
  refine t_call own76 rfl rfl rfl rfl (taken_c (nth R.hl (x.frm).toNat).xs ((nth R.hl ((x.frm).toNat)).ao) (nth R.hl (x.frm).toNat).g 0 ((nth R.hl ((x.frm).toNat)).cp) x.tons _ ((hR.lays (nth R.hl ((x.frm).toNat)) (nth_mem (by omega))).1.keep E213 (fun _ h => h)) (fun q hq => ((hR.lays _ (nth_mem (by omega))).2 q hq).keep E213 (fun _ h => h)) hrf.1 (fun q hq => ⟨(FromL.lens hst (by omega) q hq).1, (FromL.lens hst (by omega) q hq).2.1⟩) (by omega) hhas (by omega)) (fun v215 w216 r218 => ?_)
  obtain ⟨ao8, g8, c8, ys8, ao6, g6, c6, zs8, rfl, hy1, hz1, hy2, hz2, hfy, hfz, hg8, hg6, u217⟩ := r218
  have zu217 := u217.size
  have dN := (hcD.late 17 hnD rfl)
  have D220 := (C214.keep u217 (fun _ h => h))
  exact dzn rfl ⟨(u210.next u217 (fun _ _ h => h.elim)), (fun h => by cases h), (fun _ => ⟨ao8, g8, c8, ys8, ao6, g6, c6, zs8, rfl, ⟨⟨hy1, hz1, hy2.1, hz2.1, hfy, hfz, by omega, by omega⟩, (by show Acc encRowL 1 36 w13.heap.size w216 aoH gH cH (bif D 17 then (R.hl.set (x.frm).toNat (⟨ao8, g8, c8, ys8⟩ : RowL)) else R.hl); simpa only [dN, cond_false] using D220)⟩, (fun h => absurd ((hcD.late 13 hnD rfl).symm.trans h) (by decide)), (fun h => absurd ((hcD.late 14 (hcD.late 13 hnD rfl) rfl).symm.trans h) (by decide)), (fun h => absurd ((hcD.late 15 (hcD.late 13 hnD rfl) rfl).symm.trans h) (by decide))⟩)⟩
 ·
  intro D ρ w221 hcD hnD hdD hW
  obtain ⟨u222, N224, F223⟩ := hW
  have zu222 := u222.size
  obtain ⟨ao8, g8, c8, ys8, ao6, g6, c6, zs8, e227, H228, k229, k230, k231⟩ := F223 (hdD 12 rfl)
  obtain ⟨hy1, hz1, hy2, hz2, hfy, hfz, hg8, hg6⟩ := id H228.1
  have dN := (hcD.late 17 hnD rfl)
  have C226 : Acc encRowL 1 36 w13.heap.size w221 aoH gH cH R.hl := by have h := H228.2; simpa only [dN, cond_false] using h
  refine ⟨[(65, .tuple #[.slice ao8 ys8.length c8, .slice ao6 zs8.length c6])], ⟨fi 12 rfl rfl e227.symm, trivial⟩, fun Lr => ?_⟩
  refine t_move rfl rfl rfl ?_
  exact dzn rfl ⟨u222, N224, (fun _ => ⟨ao8, g8, c8, ys8, ao6, g6, c6, zs8, e227, H228, (fun _ => rfl), k230, k231⟩)⟩
 ·
  intro D ρ w232 hcD hnD hdD hW
  obtain ⟨u233, N235, F234⟩ := hW
  have zu233 := u233.size
  obtain ⟨ao8, g8, c8, ys8, ao6, g6, c6, zs8, e238, H239, k240, k241, k242⟩ := F234 (hcD 13 (hdD 13 rfl) 12 (memB_iff.1 rfl))
  obtain ⟨hy1, hz1, hy2, hz2, hfy, hfz, hg8, hg6⟩ := id H239.1
  have dN := (hcD.late 17 hnD rfl)
  have C237 : Acc encRowL 1 36 w13.heap.size w232 aoH gH cH R.hl := by have h := H239.2; simpa only [dN, cond_false] using h
  refine ⟨[(52, .tuple #[.slice ao8 ys8.length c8, .slice ao6 zs8.length c6])], ⟨fi 13 rfl rfl (k240 (hdD 13 rfl)).symm, trivial⟩, fun Lr => ?_⟩
  refine t_extract rfl rfl rfl rfl ?_
  exact dzn rfl ⟨u233, N235, (fun _ => ⟨ao8, g8, c8, ys8, ao6, g6, c6, zs8, e238, H239, k240, (fun _ => rfl), k242⟩)⟩
 ·
  intro D ρ w243 hcD hnD hdD hW
  obtain ⟨u244, N246, F245⟩ := hW
  have zu244 := u244.size
  obtain ⟨ao8, g8, c8, ys8, ao6, g6, c6, zs8, e249, H250, k251, k252, k253⟩ := F245 (hcD 13 (hdD 13 rfl) 12 (memB_iff.1 rfl))
  obtain ⟨hy1, hz1, hy2, hz2, hfy, hfz, hg8, hg6⟩ := id H250.1
  refine ⟨[(52, .tuple #[.slice ao8 ys8.length c8, .slice ao6 zs8.length c6])], ⟨fi 13 rfl rfl (k251 (hdD 13 rfl)).symm, trivial⟩, fun Lr => ?_⟩
  refine t_extract rfl rfl rfl rfl ?_
  exact dzn rfl ⟨u244, N246, (fun _ => ⟨ao8, g8, c8, ys8, ao6, g6, c6, zs8, e249, H250, k251, k252, (fun _ => rfl)⟩)⟩
 ·
  intro D ρ w254 hcD hnD hdD hW
  obtain ⟨u255, N257, F256⟩ := hW
  have zu255 := u255.size
  obtain ⟨ao8, g8, c8, ys8, ao6, g6, c6, zs8, e260, H261, k262, k263, k264⟩ := F256 (hdD 12 rfl)
  obtain ⟨hy1, hz1, hy2, hz2, hfy, hfz, hg8, hg6⟩ := id H261.1
  have dN := (hcD.late 17 hnD rfl)
  have C259 : Acc encRowL 1 36 w13.heap.size w254 aoH gH cH R.hl := by have h := H261.2; simpa only [dN, cond_false] using h
  refine ⟨_, kf_fr [54, 56], fun Lr => ?_⟩
  have i265 : (x.frm).toNat < R.hl.length := (by omega)
  refine t_index (j := (x.frm).toNat) Try.underlying33 Try.sizeOf36 rfl rfl rfl rfl ((C259.sl (fun _ => rfl)).addr (by omega)) (by omega) i265 ?_
  exact dz rfl ⟨u255, N257, F256⟩
 ·
  intro D ρ w266 hcD hnD hdD hW
  obtain ⟨u267, N269, F268⟩ := hW
  have zu267 := u267.size
  obtain ⟨ao8, g8, c8, ys8, ao6, g6, c6, zs8, e272, H273, k274, k275, k276⟩ := F268 (hdD 12 rfl)
  obtain ⟨hy1, hz1, hy2, hz2, hfy, hfz, hg8, hg6⟩ := id H273.1
  have dN := hnD
  have C271 : Acc encRowL 1 36 w13.heap.size w266 aoH gH cH R.hl := by have h := H273.2; simpa only [dN, cond_false] using h
  refine ⟨[(66, .slice ao8 ys8.length c8), (68, .pointer (some ⟨gH, 0 + (x.frm).toNat * 1, none⟩))], ⟨fi 14 rfl rfl (k275 (hdD 14 rfl)).symm, fi 16 rfl rfl rfl, trivial⟩, fun Lr => ?_⟩
  refine t_storeA (vs := [.slice ao8 ys8.length c8]) (j := (x.frm).toNat) (o' := 0) (k := 1) (⟨ao8, g8, c8, ys8⟩ : RowL) (fun _ => rfl) Try.sizeOf36 rfl rfl (by omega) rfl C271 (by omega) rfl rfl (by decide) (by simp [Value.oneCell']) rfl (fun w277 R279 u278 => ?_)
  have zu278 := u278.size
  exact dz0 rfl ⟨(u267.next u278 (fun i hi h => by omega)), (fun h => absurd ((hdD 12 rfl).symm.trans h) (by decide)), (fun _ => ⟨ao8, g8, c8, ys8, ao6, g6, c6, zs8, e272, ⟨⟨H273.1.1, H273.1.2.1, (H273.1.2.2.1.keep u278 (fun _ => by have h9 := H273.1.2.2.2.2.2.2.1; show ¬ (g8 = gH); omega)), (H273.1.2.2.2.1.keep u278 (fun _ => by have h9 := H273.1.2.2.2.2.2.2.2; show ¬ (g6 = gH); omega)), H273.1.2.2.2.2⟩, R279⟩, k274, k275, k276⟩)⟩
 intro ρ w281 hW
 obtain ⟨u282, _, F283⟩ := hW
 have zu282 := u282.size
 have E284 := E144.next u282 (fun i hi h => by omega)
 obtain ⟨ao8, g8, c8, ys8, ao6, g6, c6, zs8, e285, H286, k287, k288, k289⟩ := F283 rfl
 obtain ⟨hy1, hz1, hy2, hz2, hfy, hfz, hg8, hg6⟩ := id H286.1
 have C290 : Acc encRowL 1 36 w13.heap.size w281 aoH gH cH (R.hl.set (x.frm).toNat (⟨ao8, g8, c8, ys8⟩ : RowL)) := H286.2
 refine t_weak [(2, .int .i64 ev), (3, .pointer (some ⟨bk2, 0, none⟩)), (4, .pointer (some ⟨bk7, 0, none⟩)), (6, .pointer (some ⟨bk12, 0, none⟩)), (67, .slice ao6 zs8.length c6)] ⟨rfl, rfl, rfl, rfl, (look_nd (j := 15) rfl rfl rfl (k289 rfl)), trivial⟩ (t_assign rfl rfl rfl (t_nil' (hK145 _ _ (c_seq fun K291 hK291 => (c_region (t_move rfl rfl rfl (t_move rfl rfl rfl ?_)))))))
 obtain ⟨hzn, hzpl⟩ := tak_few (FromL.lens hst (show (x.frm).toNat < R.hl.length by omega)) (by omega) hhas (by omega) hz1
 refine t_call own77 rfl rfl rfl rfl (with_c zs8 ao6 g6 0 c6 ev _ hz2 (fun q hq => by obtain ⟨p, hp, e1, e2, e3⟩ := hfz q hq; rw [e1, e2, e3]; exact ((hR.lays _ (nth_mem (by omega))).2 p hp).keep E284 (fun _ h => h)) hzn (fun q hq => by have h := hzpl q hq; omega)) (fun v292 w293 r295 => ?_)
 obtain ⟨az9, gz9, cz9, zs9, rfl, hzv9, hzs9, hza9, hzg9, u294⟩ := r295
 have zu294 := u294.size
 have E296 := E284.nx u294
 have hzl9 : zs9.length = zs8.length := by have h := congrArg List.length hzv9; simpa using h
 refine t_assign rfl rfl rfl (t_nil' (hK291 _ _ (c_seq fun K297 hK297 => (c_seq fun K298 hK298 => (c_region (t_field Try.underlying41 rfl Try.sizeOf39 (0) rfl rfl rfl rfl ?_))))))
 have B299 := ((B147.keep u282 (by omega)).kx u294)
 refine t_load Try.isAgg39 rfl rfl rfl (B299.get rfl) (t_cmp rfl rfl rfl rfl rfl (t_samehd (v := .bool false) rfl (t_nil' (hK298 _ _ (c_cond_f rfl (c_skip (hK297 _ _ (c_seq fun K300 hK300 => (c_seq fun K301 hK301 => (c_region (t_field Try.underlying41 rfl Try.sizeOf39 (0) rfl rfl rfl rfl (t_load Try.isAgg39 rfl rfl rfl (B299.get rfl) (t_cmp rfl rfl rfl rfl rfl (t_samehd (v := .bool true) rfl (t_nil' (hK301 _ _ (c_cond_t rfl ?_)))))))))))))))))
 have B302 := ((B151.keep u282 (by omega)).kx u294)
 refine c_drawnS follows 13 11 [some (109, none), some (110, some (.pointer (some ⟨bk2, 2, none⟩))), some (111, some (.slice R.la R.ld.length R.lc)), some (112, none), some (113, some (.int .i64 ev)), some (114, some (.pointer (some ⟨bk7, 6, none⟩))), some (115, some (.int .i64 x.port)), some (116, some (.slice az9 zs9.length cz9)), some (117, some (.agg #[.int .i64 ev, .int .i64 x.port, .slice az9 zs9.length cz9])), some (118, none), some (119, none)] [[],[],[1],[0,2],[],[],[5],[],[4,6,7],[8],[3,9,3],[0,1,2,3,4,5,6,7,8,9,10],[11,10,10,0,1,2,3,4,5,6,7,8,9,10]] (fun D ρ w => Upd (fun _ => False) w293 w ∧ (D 0 = true → ∃ bE, ρ 0 = .slice (some ⟨bE, 0, none⟩) 0 0 ∧ (D 3 = false → (Blk w bE 52 [] ∧ w293.heap.size ≤ bE))) ∧ (D 3 = true → ∃ aoC gC cC, ρ 3 = .slice aoC R.ld.length cC ∧ (D 10 = false → Acc encLG 3 52 w293.heap.size w aoC gC cC R.ld)) ∧ (D 9 = true → ∃ bV, ρ 9 = .slice (some ⟨bV, 0, none⟩) 1 1 ∧ (D 10 = false → (Blk w bV 52 [.int .i64 ev, .int .i64 x.port, .slice az9 zs9.length cz9] ∧ w293.heap.size ≤ bV))) ∧ (D 10 = true → ∃ aoP gP cP, ρ 10 = .slice aoP ((R.ld ++ [(⟨ev, x.port, az9, gz9, cz9, zs9⟩ : LG)]).length) cP ∧ (Sl encLG 3 w aoP gP 0 (R.ld ++ [(⟨ev, x.port, az9, gz9, cz9, zs9⟩ : LG)]) ∧ w293.heap.size ≤ gP))) rfl rfl rfl rfl (by kernel_rfl) (by kernel_rfl) (by kernel_rfl) ⟨(Upd.drew _).to, (fun h => by cases h), (fun h => by cases h), (fun h => by cases h), (fun h => by cases h)⟩ ⟨?_, ?_, ?_, ?_, ?_, ?_, ?_, ?_, ?_, ?_, ?_, trivial⟩ ?_
 ·
  intro D ρ w303 hcD hnD hdD hW
  obtain ⟨u304, F305, F306, F307, F308⟩ := hW
  have zu304 := u304.size
  refine ⟨[], trivial, fun Lr => ?_⟩
  refine t_bslice (ps := []) (cs := []) (e := 52) rfl rfl ⟨rfl, rfl⟩ (fun w => by kernel_rfl) (fun bE w310 ebE sbE B312 u311 => ?_)
  have zu311 := u311.size
  exact dzn rfl ⟨(u304.next u311 (fun _ _ h => h.elim)), (fun _ => ⟨bE, rfl, fun _ => ⟨B312, by omega⟩⟩), (fun h => absurd ((hcD.late 3 hnD rfl).symm.trans h) (by decide)), (fun h => by obtain ⟨bV, e, hB⟩ := F307 h; exact ⟨bV, e, fun h2 => ⟨((hB h2).1.keep u311 (fun h => h)), (hB h2).2⟩⟩), (fun h => absurd ((hcD.late 10 (hcD.late 3 hnD rfl) rfl).symm.trans h) (by decide))⟩
 · exact pzf Try.underlying47 rfl Try.sizeOf44 (2) rfl rfl rfl rfl rfl fun _ _ _ h => h
 · exact fun D ρ w314 hcD hnD hdD hW => ⟨_, kf_fr [110], fun Lr => t_load Try.isAgg44 rfl rfl rfl ((B302.kx hW.1).get rfl) (dz rfl hW)⟩
 ·
  intro D ρ w322 hcD hnD hdD hW
  obtain ⟨u323, F324, F325, F326, F327⟩ := hW
  have zu323 := u323.size
  obtain ⟨bE, e329, H330⟩ := F324 (hdD 0 rfl)
  have H331 := H330 hnD
  have agebE := H331.2
  have ltbE := H331.1.lt
  refine ⟨[(109, .slice (some ⟨bE, 0, none⟩) 0 0), (111, .slice R.la R.ld.length R.lc)], ⟨fi 0 rfl rfl e329.symm, fi 2 rfl rfl rfl, trivial⟩, fun Lr => ?_⟩
  refine t_copyE (enc := encLG) (z := .agg #[.int .i64 0, .int .i64 0, .slice none 0 0]) (bytes := 40) (k := 3) (ys := R.ld) Try.underlying44 (by kernel_rfl) rfl (by decide) (fun _ => rfl) (by intro x; simp [encLG, Value.oneCell']) rfl rfl rfl rfl H331.1 (hR.land.keep (E296.nx u323) (fun _ h => h)) (by omega) (by decide) (fun aoC gC cC w332 A334 u333 geC => ?_)
  have zu333 := u333.size
  exact dzn rfl ⟨(u323.next u333 (fun _ _ h => h.elim)), (fun h => by obtain ⟨bE, e, _⟩ := F324 h; exact ⟨bE, e, fun h => by cases h⟩), (fun _ => ⟨aoC, gC, cC, rfl, fun _ => A334.rebase (by omega) (by omega)⟩), (fun h => by obtain ⟨bV, e, hB⟩ := F326 h; exact ⟨bV, e, fun h2 => ⟨((hB h2).1.keep u333 (fun h => h)), (hB h2).2⟩⟩), (fun h => absurd ((hcD.late 10 hnD rfl).symm.trans h) (by decide))⟩
 · exact pz rfl rfl rfl rfl fun _ _ _ h => h
 · exact pzf Try.underlying41 rfl Try.sizeOf3 (6) rfl rfl rfl rfl rfl fun _ _ _ h => h
 · exact fun D ρ w336 hcD hnD hdD hW => ⟨_, kf_fr [114], fun Lr => t_load Try.isAgg3 rfl rfl rfl ((B299.kx hW.1).get rfl) (dz rfl hW)⟩
 · exact pz rfl rfl rfl rfl fun _ _ _ h => h
 · exact fun D ρ w _ _ _ hW => ⟨[(113, .int .i64 ev), (115, .int .i64 x.port), (116, .slice az9 zs9.length cz9)], ⟨fi 4 rfl rfl rfl, fi 6 rfl rfl rfl, fi 7 rfl rfl rfl, trivial⟩, fun Lr => t_build (ps := [(0, .int .i64 ev), (1, .int .i64 x.port), (2, .slice az9 zs9.length cz9)]) (v := .agg #[.int .i64 ev, .int .i64 x.port, .slice az9 zs9.length cz9]) rfl rfl ⟨rfl, rfl⟩ (fun w => by kernel_rfl) (dz rfl hW)⟩
 ·
  intro D ρ w344 hcD hnD hdD hW
  obtain ⟨u345, F346, F347, F348, F349⟩ := hW
  have zu345 := u345.size
  refine ⟨_, kf_fr [117], fun Lr => ?_⟩
  refine t_bslice (ps := [(0, .agg #[.int .i64 ev, .int .i64 x.port, .slice az9 zs9.length cz9])]) (cs := [.int .i64 ev, .int .i64 x.port, .slice az9 zs9.length cz9]) (e := 52) rfl rfl ⟨rfl, rfl⟩ (fun w => by kernel_rfl) (fun bV w351 ebV sbV B353 u352 => ?_)
  have zu352 := u352.size
  exact dzn rfl ⟨(u345.next u352 (fun _ _ h => h.elim)), (fun h => by obtain ⟨bE, e, hB⟩ := F346 h; exact ⟨bE, e, fun h2 => ⟨((hB h2).1.keep u352 (fun h => h)), (hB h2).2⟩⟩), (fun h => by obtain ⟨aoC, gC, cC, e, hB⟩ := F347 h; exact ⟨aoC, gC, cC, e, fun h2 => ((hB h2).keep u352 (fun _ h => h))⟩), (fun _ => ⟨bV, rfl, fun _ => ⟨B353, by omega⟩⟩), (fun h => absurd ((hcD.late 10 hnD rfl).symm.trans h) (by decide))⟩
 ·
  intro D ρ w355 hcD hnD hdD hW
  obtain ⟨u356, F357, F358, F359, F360⟩ := hW
  have zu356 := u356.size
  obtain ⟨aoC, gC, cC, e362, H363⟩ := F358 (hdD 3 rfl)
  have H364 := H363 hnD
  have ltC := H364.lt
  obtain ⟨bV, e365, H366⟩ := F359 (hdD 9 rfl)
  have H367 := H366 hnD
  have agebV := H367.2
  have ltbV := H367.1.lt
  refine ⟨[(112, .slice aoC R.ld.length cC), (118, .slice (some ⟨bV, 0, none⟩) 1 1)], ⟨fi 3 rfl rfl e362.symm, fi 9 rfl rfl e365.symm, trivial⟩, fun Lr => ?_⟩
  refine t_append (z := .agg #[.int .i64 0, .int .i64 0, .slice none 0 0]) (bytes := 40) (k := 3) (base := w293.heap.size) (⟨ev, x.port, az9, gz9, cz9, zs9⟩ : LG) Try.underlying44 (by kernel_rfl) rfl (by decide) (fun _ => rfl) (by intro x; simp [encLG, Value.oneCell']) rfl rfl rfl rfl H364 H367.1 (by omega) (by omega) (by decide) (fun aoP gP cP w368 A370 u369 geP lnP => ?_)
  have zu369 := u369.size
  exact dzn rfl ⟨(u356.next u369 (fun i hi h => by omega)), (fun h => by obtain ⟨bE, e, _⟩ := F357 h; exact ⟨bE, e, fun h2 => absurd ((hdD 3 rfl).symm.trans h2) (by decide)⟩), (fun h => by obtain ⟨aoC, gC, cC, e, _⟩ := F358 h; exact ⟨aoC, gC, cC, e, fun h => by cases h⟩), (fun h => by obtain ⟨bV, e, _⟩ := F359 h; exact ⟨bV, e, fun h => by cases h⟩), (fun _ => ⟨aoP, gP, cP, rfl, ⟨A370.sl (fun _ => rfl), A370.base_le (by simp)⟩⟩)⟩
 intro ρ w372 hW
 obtain ⟨u373, F374, F375, F376, F377⟩ := hW
 have zu373 := u373.size
 obtain ⟨aoP, gP, cP, e382, H383⟩ := F377 rfl
 have ageP := H383.2
 refine t_weak [(3, .pointer (some ⟨bk2, 0, none⟩)), (6, .pointer (some ⟨bk12, 0, none⟩)), (119, .slice aoP ((R.ld ++ [(⟨ev, x.port, az9, gz9, cz9, zs9⟩ : LG)]).length) cP)] ⟨rfl, rfl, (look_nd (j := 10) rfl rfl rfl e382), trivial⟩ (t_field Try.underlying47 rfl Try.sizeOf44 (2) rfl rfl rfl rfl ?_)
 have B384 := (B302.kx u373)
 refine t_st (vs := [.slice aoP ((R.ld ++ [(⟨ev, x.port, az9, gz9, cz9, zs9⟩ : LG)]).length) cP]) Try.sizeOf44 rfl rfl rfl B384 rfl rfl rfl rfl (fun w385 sw385 B387 u386 => ?_)
 have zu386 := u386.size
 have B387 : Blk w385 bk2 47 [.slice aoH R.hl.length cH, .slice aoS R.sl.length cS, .slice aoP ((R.ld ++ [(⟨ev, x.port, az9, gz9, cz9, zs9⟩ : LG)]).length) cP, .slice aoL R.lo.length cL, .slice R.ea R.se.length R.ec] := B387
 refine t_nil' (hK300 _ _ (c_seq fun K389 hK389 => (c_region (t_loadN (vs := [.slice aoH R.hl.length cH, .slice aoS R.sl.length cS, .slice aoP ((R.ld ++ [(⟨ev, x.port, az9, gz9, cz9, zs9⟩ : LG)]).length) cP, .slice aoL R.lo.length cL, .slice R.ea R.se.length R.ec]) Try.isAgg47 Try.sizeOf47 rfl rfl rfl (B387.at.sub 0 5) rfl ?_))))
 have B390 := (((((((((((B14.kx u98).keep u114 (by omega)).keep u118 (by omega)).kx u125).kx u129).keep u136 (by omega)).kx u143).keep u282 (by omega)).kx u294).kx u373).keep u386 (by omega))
 refine t_st (vs := [.slice aoH R.hl.length cH, .slice aoS R.sl.length cS, .slice aoP ((R.ld ++ [(⟨ev, x.port, az9, gz9, cz9, zs9⟩ : LG)]).length) cP, .slice aoL R.lo.length cL, .slice R.ea R.se.length R.ec]) Try.sizeOf47 rfl rfl rfl B390 rfl rfl rfl rfl (fun w391 sw391 B393 u392 => ?_)
 have zu392 := u392.size
 have B393 : Blk w391 bk12 47 [.slice aoH R.hl.length cH, .slice aoS R.sl.length cS, .slice aoP ((R.ld ++ [(⟨ev, x.port, az9, gz9, cz9, zs9⟩ : LG)]).length) cP, .slice aoL R.lo.length cL, .slice R.ea R.se.length R.ec] := B393
 refine t_nil' (hK389 _ _ (c_ret (f_ret1 (v := .agg #[.slice aoH R.hl.length cH, .slice aoS R.sl.length cS, .slice aoP ((R.ld ++ [(⟨ev, x.port, az9, gz9, cz9, zs9⟩ : LG)]).length) cP, .slice aoL R.lo.length cL, .slice R.ea R.se.length R.ec]) Try.results50 ⟨_, _, rfl, run_loadVarN (vs := [.slice aoH R.hl.length cH, .slice aoS R.sl.length cS, .slice aoP ((R.ld ++ [(⟨ev, x.port, az9, gz9, cz9, zs9⟩ : LG)]).length) cP, .slice aoL R.lo.length cL, .slice R.ea R.se.length R.ec]) Try.isAgg47 Try.sizeOf47 rfl (B393.at.sub 0 5)⟩ ?_)))
 have D395 := ((((C290.keep u294 (fun _ h => h)).keep u373 (fun _ h => h)).keep u386 (fun hb => show ¬ (gH = bk2) by first | omega | assumption)).keep u392 (fun hb => show ¬ (gH = bk12) by first | omega | assumption))
 have D396 := (((((((D133.keep u136 (fun hb => show ¬ (gS = bk2) by first | omega | assumption)).keep u143 (fun _ h => h)).keep u282 (fun hb => show ¬ (gS = gH) by first | omega | assumption)).keep u294 (fun _ h => h)).keep u373 (fun _ h => h)).keep u386 (fun hb => show ¬ (gS = bk2) by first | omega | assumption)).keep u392 (fun hb => show ¬ (gS = bk12) by first | omega | assumption))
 have D397 := (((((((hcL.1.keep u136 (fun hb => show ¬ (gL = bk2) by first | omega | assumption)).keep u143 (fun _ h => h)).keep u282 (fun hb => show ¬ (gL = gH) by first | omega | assumption)).keep u294 (fun _ h => h)).keep u373 (fun _ h => h)).keep u386 (fun hb => show ¬ (gL = bk2) by first | omega | assumption)).keep u392 (fun hb => show ¬ (gL = bk12) by first | omega | assumption))
 have D398 := ((((hy2.keep u294 (fun _ h => h)).keep u373 (fun _ h => h)).keep u386 (fun _ => by show ¬ (g8 = bk2); omega)).keep u392 (fun _ => by show ¬ (g8 = bk12); omega))
 have hu9 := (((E296.nx u373).next u386 (fun i hi h => by omega)).next u392 (fun i hi h => by omega))
 have hl8 : LaysR w391 ao8 g8 ys8 := hfy.rows (hR.lays _ (nth_mem (by omega))).2 hu9 D398
 have hst9 : (⟨(R.hl.set (x.frm).toNat (⟨ao8, g8, c8, ys8⟩ : RowL)).map (fun r => r.xs.map HLay.v), R.sl, (R.ld ++ [(⟨ev, x.port, az9, gz9, cz9, zs9⟩ : LG)]).map (fun l => ⟨l.ev, l.port, l.xs.map HLay.v⟩), R.lo, R.se⟩ : Stt) = stepF R.st x ev := by
   rw [step3 hk, map_setL, show nth R.st.hold (x.frm).toNat = (nth R.hl (x.frm).toNat).xs.map HLay.v from nth_map (fun r : RowL => r.xs.map HLay.v) (by omega)]
   simp only [List.map_append, List.map_cons, List.map_nil, hzv9, hy1, hz1]
   rfl
 have D399 := ((H383.1.keep u386 (fun _ => by show ¬ (gP = bk2); omega)).keep u392 (fun _ => by show ¬ (gP = bk12); omega))
 have D400 := (((hzs9.1.keep u373 (fun _ h => h)).keep u386 (fun hp => by have h9 := hzs9.1.lt hp; have h8 := hzg9; show ¬ (gz9 = bk2); omega)).keep u392 (fun hp => by have h9 := hzs9.1.lt hp; have h8 := hzg9; show ¬ (gz9 = bk12); omega))
 have D401 := (fun z hz => ((fun z hz => ((fun z hz => (hzs9.2 z hz).keep u373 (fun _ h => h)) z hz).keep u386 (fun hp => by have h9 := hza9 z hz hp; have h8 := (hzs9.2 z hz).lt hp; show ¬ (z.b = bk2); omega)) z hz).keep u392 (fun hp => by have h9 := hza9 z hz hp; have h8 := (hzs9.2 z hz).lt hp; show ¬ (z.b = bk12); omega))
 exact ⟨⟨aoH, gH, cH, (R.hl.set (x.frm).toNat (⟨ao8, g8, c8, ys8⟩ : RowL)), aoS, gS, cS, R.sl, aoP, gP, cP, R.ld ++ [(⟨ev, x.port, az9, gz9, cz9, zs9⟩ : LG)], aoL, gL, cL, R.lo, R.ea, R.eg, R.ec, R.se⟩, by simp [RG.cells], hst9, ⟨D395.sl (fun _ => rfl), lays_set (fun r hr => (hR.lays r hr).keep hu9 (fun _ _ h => h)) hl8, D396.sl (fun _ => rfl), D399, parts_snoc (fun q hq => (hR.parts q hq).keep hu9 (fun _ _ h => h)) ⟨D400, D401⟩, D397.sl (fun _ => rfl), hR.seals.keep hu9 (fun _ h => h)⟩, by show R.se.length ≤ R.se.length + 1; omega, fun T hB hT => ⟨fun _ => hT gH (by omega), all_set hB.lays (hfy.lb (hB.lays _ (nth_mem (by omega))) (fun _ => hT g8 (by omega))), fun _ => hT gS (by omega), fun _ => hT gP (by omega), all_snoc hB.parts ⟨fun _ => hT gz9 (by omega), fun z hz hp => hT z.b (by have h := hza9 z hz hp; omega)⟩, fun _ => hT gL (by omega), hB.seals⟩, hu9⟩

theorem Step_c (bs : List Bil) (caps : List Int) (mi : Int) (R : RG) (n : Nat) (x : Ev) (ev : Int) (w0 : World) (hR : RM w0 R) (hst : StOk bs caps n R.st) (hx : okEv x = true) (hev : EvOk bs caps R.st mi x) (hse : R.se.length ≤ 100000) (hn : n ≤ 100) : CallsV Try.prog 50 [.agg #[.slice R.ha R.hl.length R.hc, .slice R.sa R.sl.length R.sc, .slice R.la R.ld.length R.lc, .slice R.da R.lo.length R.dc, .slice R.ea R.se.length R.ec], .agg #[.int .i64 x.kind, .int .i64 x.minute, .int .i64 x.bill, .int .i64 x.frm, .int .i64 x.to, .int .i64 x.tons, .int .i64 x.port, .int .i64 x.sn], .int .i64 ev] w0 (fun v w' => ∃ R' : RG, v = .agg R'.cells.toArray ∧ R'.st = stepF R.st x ev ∧ RM w' R' ∧ R'.se.length ≤ R.se.length + 1 ∧ (∀ T : Nat → Prop, RB T R → (∀ g, w0.heap.size ≤ g → T g) → RB T R') ∧ Ext w0 w') := by
  have hr := okEv_rng hx
  have hk : x.kind = 1 ∨ x.kind = 2 ∨ x.kind = 3 ∨ x.kind = 4 ∨ x.kind = 5 := by omega
  rcases hk with hk | hk | hk | hk | hk
  · rw [hk]; exact Step1_c bs caps mi R n x ev w0 hR hst hx hev hse hn hk
  · rw [hk]; exact Step2_c bs caps mi R n x ev w0 hR hst hx hev hse hn hk
  · rw [hk]; exact Step3_c bs caps mi R n x ev w0 hR hst hx hev hse hn hk
  · rw [hk]; exact Step4_c bs caps mi R n x ev w0 hR hst hx hev hse hn hk
  · rw [hk]; exact Step5_c bs caps mi R n x ev w0 hR hst hx hev hse hn hk

end Go.Proofs.Ytgkkgpenmppjcaa
