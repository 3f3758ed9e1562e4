/-
  The reference's Step. Conditions: none.
-/
import Derived.Test.YtgkkgpenmppjcaaVB7
namespace Go.Proofs.Ytgkkgpenmppjcaa
open Go Go.RowKit

theorem map_setR {R : RG} {i : Nat} {r : RowL} : (R.hl.set i r).map (fun r => r.xs.map HLay.v) = (R.hl.map (fun r => r.xs.map HLay.v)).set i (r.xs.map HLay.v) := List.map_set
theorem lays_app {w : World} {ao1 ao3 : Option Addr} {g1 g3 : Nat} {xs ys : List HLay} (h1 : LaysR w ao1 g1 xs) (h2 : ∀ y ∈ ys, Sl encI 1 w y.ao y.b 0 y.v.path) (hs : Sl encHLay 3 w ao3 g3 0 (xs ++ ys)) : LaysR w ao3 g3 (xs ++ ys) := ⟨hs, fun x hx => by
  rcases List.mem_append.1 hx with hx | hx
  · exact h1.2 x hx
  · exact h2 x hx⟩
theorem lays_set {w : World} {rows : List RowL} {i : Nat} {r : RowL} (h : ∀ q ∈ rows, LaysR w q.ao q.g q.xs) (hr : LaysR w r.ao r.g r.xs) : ∀ q ∈ rows.set i r, LaysR w q.ao q.g q.xs := fun q hq => by
  rcases List.mem_or_eq_of_mem_set hq with hq | hq
  · exact h q hq
  · subst hq; exact hr

set_option maxHeartbeats 2000000 in
theorem Step1_c (bs : List Bil) (caps : List Int) (mi : Int) (R : RG) (n : Nat) (x : Ev) (ev : Int) (w0 : World) (hR : RM w0 R) (hst : StOk bs caps n R.st) (hx : okEv x = true) (hev : EvOk bs caps R.st mi x) (hse : R.se.length ≤ 100000) (hn : n ≤ 100) (hk : x.kind = 1) :
    CallsV Try.prog 50 [.agg #[.slice R.ha R.hl.length R.hc, .slice R.sa R.sl.length R.sc, .slice R.la R.ld.length R.lc, .slice R.da R.lo.length R.dc, .slice R.ea R.se.length R.ec], .agg #[.int .i64 1, .int .i64 x.minute, .int .i64 x.bill, .int .i64 x.frm, .int .i64 x.to, .int .i64 x.tons, .int .i64 x.port, .int .i64 x.sn], .int .i64 ev] w0 (fun v w' => ∃ R' : RG, v = .agg R'.cells.toArray ∧ R'.st = stepF R.st x ev ∧ RM w' R' ∧ R'.se.length ≤ R.se.length + 1 ∧ (∀ T : Nat → Prop, RB T R → (∀ g, w0.heap.size ≤ g → T g) → RB T R') ∧ Ext w0 w') := by
 have hr := okEv_rng hx
 have hn1 : R.hl.length = caps.length := by have h := hst.hn; rwa [show R.st.hold.length = R.hl.length from List.length_map _] at h
 have hn2 : R.sl.length = caps.length := hst.sn
 have hn3 : R.lo.length = bs.length := hst.lsn
 have hn4 := hst.bn
 have hn5 := hst.h20
 have hto := hev.to (by simp [useT, hk])
 have hbi := hev.bill hk
 have hls := hst.lsr (x.bill).toNat (by show (x.bill).toNat < R.lo.length; omega)
 rw [show R.st.loaded = R.lo from rfl] at hls
 have hbk := okBil_rng (hst.bil _ (nth_mem (xs := bs) (i := (x.bill).toNat) (by omega)))
 have hrw := row_few hst (i := (x.to).toNat) (by omega)
 refine f_enter (N := 122) Try.func50 rfl rfl rfl (c_seq fun K1 hK1 => (c_region (t_box (cs := [.slice R.ha R.hl.length R.hc, .slice R.sa R.sl.length R.sc, .slice R.la R.ld.length R.lc, .slice R.da R.lo.length R.dc, .slice R.ea R.se.length R.ec]) rfl rfl rfl rfl (fun bk2 w3 ebk2 sbk2 B4 u5 => ?_))))
 have zu5 := u5.size
 refine t_box (cs := [.int .i64 1, .int .i64 x.minute, .int .i64 x.bill, .int .i64 x.frm, .int .i64 x.to, .int .i64 x.tons, .int .i64 x.port, .int .i64 x.sn]) rfl rfl rfl rfl (fun bk7 w8 ebk7 sbk7 B9 u10 => ?_)
 have zu10 := u10.size
 refine t_alloc (cs := [.slice none 0 0, .slice none 0 0, .slice none 0 0, .slice none 0 0, .slice none 0 0]) Try.zeroValue47 rfl rfl rfl (fun bk12 w13 ebk12 sbk12 B14 u15 => ?_)
 have zu15 := u15.size
 have E16 := (((Upd.refl (fun _ => False) w0).nx u5).nx u10).nx u15
 refine t_nil' (hK1 _ _ (c_seq fun K17 hK17 => ?_))
 have B18 := ((B4.kx u10).kx u15)
 refine c_drawnS follows 12 9 [some (8, none), some (9, some (.pointer (some ⟨bk2, 0, none⟩))), some (10, some (.slice R.ha R.hl.length R.hc)), some (11, none), some (12, none), some (13, some (.pointer (some ⟨bk2, 1, none⟩))), some (14, some (.slice R.sa R.sl.length R.sc)), some (15, none), some (16, some (.pointer (some ⟨bk2, 0, none⟩)))] [[],[],[1],[0,2],[],[],[5],[4,6,3],[0,1,2,3,5,6],[8,3,7,0,1,2,3,5,6],[0,1,2,3,4,5,6,7,8,9],[10,7,9,0,1,2,3,4,5,6,7,8,9]] (fun D ρ w => Upd (fun _ => False) w13 w ∧ (D 0 = true → ∃ bk19, ρ 0 = .slice (some ⟨bk19, 0, none⟩) 0 0 ∧ w13.heap.size ≤ bk19 ∧ Blk w bk19 36 []) ∧ (D 3 = true → ∃ aoH gH cH, ρ 3 = .slice aoH R.hl.length cH ∧ (Acc encRowL 1 36 w13.heap.size w aoH gH cH R.hl ∧ w13.heap.size ≤ gH)) ∧ (D 4 = true → ∃ bk25, ρ 4 = .slice (some ⟨bk25, 0, none⟩) 0 0 ∧ w13.heap.size ≤ bk25 ∧ Blk w bk25 4 []) ∧ (D 7 = true → ∃ aoS gS cS, ρ 7 = .slice aoS R.sl.length cS ∧ (Acc encBo 1 4 w13.heap.size w aoS gS cS R.sl ∧ w13.heap.size ≤ gS))) rfl rfl rfl rfl (by kernel_rfl) (by kernel_rfl) (by kernel_rfl) ⟨(Upd.drew _).to, (fun h => by cases h), (fun h => by cases h), (fun h => by cases h), (fun h => by cases h)⟩ ⟨?_, ?_, ?_, ?_, ?_, ?_, ?_, ?_, ?_, trivial⟩ ?_
 ·
  intro D ρ w31 hcD hnD hdD hW
  obtain ⟨u32, F33, F34, F35, F36⟩ := hW
  have zu32 := u32.size
  refine ⟨[], trivial, fun Lr => ?_⟩
  refine t_bslice (ps := []) (cs := []) (e := 36) rfl rfl ⟨rfl, rfl⟩ (fun w => by kernel_rfl) (fun bk38 w39 ebk38 sbk38 B40 u41 => ?_)
  have zu41 := u41.size
  exact dzn rfl ⟨(u32.next u41 (fun _ _ h => h.elim)), (fun _ => ⟨bk38, rfl, (by omega), (by show Blk w39 bk38 36 []; exact B40)⟩), (fun h => absurd ((hcD.late 3 hnD rfl).symm.trans h) (by decide)), (fun h => by obtain ⟨b, e, hge, hB⟩ := F35 h; exact ⟨b, e, hge, (hB.keep u41 (fun h => h))⟩), (fun h => absurd ((hcD.late 7 (hcD.late 3 hnD rfl) rfl).symm.trans h) (by decide))⟩
 · exact pzf Try.underlying47 rfl Try.sizeOf33 (0) rfl rfl rfl rfl rfl fun _ _ _ h => h
 · exact fun D ρ w43 hcD hnD hdD hW => ⟨_, kf_fr [9], fun Lr => t_load Try.isAgg33 rfl rfl rfl ((B18.kx hW.1).get rfl) (dz rfl hW)⟩
 ·
  intro D ρ w51 hcD hnD hdD hW
  obtain ⟨u52, F53, F54, F55, F56⟩ := hW
  have zu52 := u52.size
  obtain ⟨bk19, e58, gebk19, B59⟩ := F53 (hdD 0 rfl)
  refine ⟨[(8, .slice (some ⟨bk19, 0, none⟩) 0 0), (10, .slice R.ha R.hl.length R.hc)], ⟨fi 0 rfl rfl e58.symm, fi 2 rfl rfl rfl, trivial⟩, fun Lr => ?_⟩
  have ltbk19 := B59.lt
  refine t_copyE (enc := encRowL) (z := .slice none 0 0) (bytes := 24) (k := 1) (ys := R.hl) Try.underlying33 (by kernel_rfl) rfl (by decide) (fun _ => rfl) (by intro x; simp [encRowL, Value.oneCell']) rfl rfl rfl rfl B59 (hR.hold.keep (E16.nx u52) (fun _ h => h)) (by omega) (by decide) (fun aoH gH cH w60 A62 u61 gegH => ?_)
  have zu61 := u61.size
  exact dzn rfl ⟨(u52.next u61 (fun _ _ h => h.elim)), (fun h => by obtain ⟨b, e, hge, hB⟩ := F53 h; exact ⟨b, e, hge, (hB.keep u61 (fun h => h))⟩), (fun _ => ⟨aoH, gH, cH, rfl, ⟨A62.rebase (by omega) (by omega), by omega⟩⟩), (fun h => by obtain ⟨b, e, hge, hB⟩ := F55 h; exact ⟨b, e, hge, (hB.keep u61 (fun h => h))⟩), (fun h => absurd ((hcD.late 7 hnD rfl).symm.trans h) (by decide))⟩
 ·
  intro D ρ w64 hcD hnD hdD hW
  obtain ⟨u65, F66, F67, F68, F69⟩ := hW
  have zu65 := u65.size
  refine ⟨[], trivial, fun Lr => ?_⟩
  refine t_bslice (ps := []) (cs := []) (e := 4) rfl rfl ⟨rfl, rfl⟩ (fun w => by kernel_rfl) (fun bk71 w72 ebk71 sbk71 B73 u74 => ?_)
  have zu74 := u74.size
  exact dzn rfl ⟨(u65.next u74 (fun _ _ h => h.elim)), (fun h => by obtain ⟨b, e, hge, hB⟩ := F66 h; exact ⟨b, e, hge, (hB.keep u74 (fun h => h))⟩), (fun h => by obtain ⟨aoH, gH, cH, e, hB⟩ := F67 h; exact ⟨aoH, gH, cH, e, ⟨(hB.1.keep u74 (fun _ h => h)), hB.2⟩⟩), (fun _ => ⟨bk71, rfl, (by omega), (by show Blk w72 bk71 4 []; exact B73)⟩), (fun h => absurd ((hcD.late 7 hnD rfl).symm.trans h) (by decide))⟩
 · exact pzf Try.underlying47 rfl Try.sizeOf43 (1) rfl rfl rfl rfl rfl fun _ _ _ h => h
 · exact fun D ρ w76 hcD hnD hdD hW => ⟨_, kf_fr [13], fun Lr => t_load Try.isAgg43 rfl rfl rfl ((B18.kx hW.1).get rfl) (dz rfl hW)⟩
 ·
  intro D ρ w84 hcD hnD hdD hW
  obtain ⟨u85, F86, F87, F88, F89⟩ := hW
  have zu85 := u85.size
  obtain ⟨bk25, e91, gebk25, B92⟩ := F88 (hdD 4 rfl)
  refine ⟨[(12, .slice (some ⟨bk25, 0, none⟩) 0 0), (14, .slice R.sa R.sl.length R.sc)], ⟨fi 4 rfl rfl e91.symm, fi 6 rfl rfl rfl, trivial⟩, fun Lr => ?_⟩
  have ltbk25 := B92.lt
  refine t_copyE (enc := encBo) (z := .bool false) (bytes := 1) (k := 1) (ys := R.sl) Try.underlying43 (by kernel_rfl) rfl (by decide) (fun _ => rfl) (by intro x; simp [encBo, Value.oneCell']) rfl rfl rfl rfl B92 (hR.shut.keep (E16.nx u85) (fun _ h => h)) (by omega) (by decide) (fun aoS gS cS w93 A95 u94 gegS => ?_)
  have zu94 := u94.size
  exact dzn rfl ⟨(u85.next u94 (fun _ _ h => h.elim)), (fun h => by obtain ⟨b, e, hge, hB⟩ := F86 h; exact ⟨b, e, hge, (hB.keep u94 (fun h => h))⟩), (fun h => by obtain ⟨aoH, gH, cH, e, hB⟩ := F87 h; exact ⟨aoH, gH, cH, e, ⟨(hB.1.keep u94 (fun _ h => h)), hB.2⟩⟩), (fun h => by obtain ⟨b, e, hge, hB⟩ := F88 h; exact ⟨b, e, hge, (hB.keep u94 (fun h => h))⟩), (fun _ => ⟨aoS, gS, cS, rfl, ⟨A95.rebase (by omega) (by omega), by omega⟩⟩)⟩
 · exact pzf Try.underlying47 rfl Try.sizeOf33 (0) rfl rfl rfl rfl rfl fun _ _ _ h => h
 intro ρ w97 hW
 obtain ⟨u98, F99, F100, F101, F102⟩ := hW
 have zu98 := u98.size
 obtain ⟨bk19, e104, gebk19, B105⟩ := F99 rfl
 have B105 : Blk w97 bk19 36 [] := B105
 have lt_bk19 := B105.lt
 obtain ⟨aoH, gH, cH, e106, H107⟩ := F100 rfl
 have agegH := H107.2
 have lt_gH := H107.1.lt
 obtain ⟨bk25, e108, gebk25, B109⟩ := F101 rfl
 have B109 : Blk w97 bk25 4 [] := B109
 have lt_bk25 := B109.lt
 obtain ⟨aoS, gS, cS, e110, H111⟩ := F102 rfl
 have agegS := H111.2
 have lt_gS := H111.1.lt
 have nHS : gH ≠ gS := Acc.neA H107.1 H111.1 (by decide) (by omega) (by omega)
 refine t_weak [(2, .int .i64 ev), (3, .pointer (some ⟨bk2, 0, none⟩)), (4, .pointer (some ⟨bk7, 0, none⟩)), (6, .pointer (some ⟨bk12, 0, none⟩)), (11, .slice aoH R.hl.length cH), (15, .slice aoS R.sl.length cS), (16, .pointer (some ⟨bk2, 0, none⟩))] ⟨rfl, rfl, rfl, rfl, (look_nd (j := 3) rfl rfl rfl e106), (look_nd (j := 7) rfl rfl rfl e110), rfl, trivial⟩ ?_
 have B112 := (B18.kx u98)
 refine t_st (vs := [.slice aoH R.hl.length cH]) Try.sizeOf33 rfl rfl rfl B112 rfl rfl rfl rfl (fun w113 sw113 B115 u114 => ?_)
 have zu114 := u114.size
 have B115 : Blk w113 bk2 47 [.slice aoH R.hl.length cH, .slice R.sa R.sl.length R.sc, .slice R.la R.ld.length R.lc, .slice R.da R.lo.length R.dc, .slice R.ea R.se.length R.ec] := B115
 refine t_field Try.underlying47 rfl Try.sizeOf43 (1) rfl rfl rfl rfl (t_st (vs := [.slice aoS R.sl.length cS]) Try.sizeOf43 rfl rfl rfl B115 rfl rfl rfl rfl (fun w117 sw117 B119 u118 => ?_))
 have zu118 := u118.size
 have B119 : Blk w117 bk2 47 [.slice aoH R.hl.length cH, .slice aoS R.sl.length cS, .slice R.la R.ld.length R.lc, .slice R.da R.lo.length R.dc, .slice R.ea R.se.length R.ec] := B119
 refine t_nil' (hK17 _ _ (c_seq fun K121 hK121 => (c_region (t_bslice (ps := []) (cs := []) (e := 3) rfl rfl ⟨rfl, rfl⟩ (fun w => by kernel_rfl) (fun bk122 w123 ebk122 sbk122 B124 u125 => ?_)))))
 have zu125 := u125.size
 have E126 := (((E16.nx u98).next u114 (fun i hi h => by omega)).next u118 (fun i hi h => by omega)).nx u125
 refine t_field Try.underlying47 rfl Try.sizeOf45 (3) rfl rfl rfl rfl ?_
 have B127 := (B119.kx u125)
 refine t_load Try.isAgg45 rfl rfl rfl (B127.get rfl) ?_
 have ltbk122 := B124.lt
 refine t_copyE (enc := encI) (z := .int .i64 0) (bytes := 8) (k := 1) (ys := R.lo) Try.underlying45 (by kernel_rfl) rfl (by decide) (fun _ => rfl) (by intro x; simp [encI, Value.oneCell']) rfl rfl rfl rfl B124 (hR.load.keep E126 (fun _ h => h)) (by omega) (by decide) (fun aoL gL cL w128 A130 u129 gegL => ?_)
 have zu129 := u129.size
 have hcL : (Acc encI 1 3 bk122 w128 aoL gL cL R.lo ∧ bk122 ≤ gL) := ⟨A130.rebase (by omega) (by omega), by omega⟩
 have agegL := hcL.2
 have lt_gL := hcL.1.lt
 have D132 := ((((H107.1.keep u114 (fun hb => show ¬ (gH = bk2) by first | omega | assumption)).keep u118 (fun hb => show ¬ (gH = bk2) by first | omega | assumption)).keep u125 (fun _ h => h)).keep u129 (fun _ h => h))
 have nHL : gH ≠ gL := Acc.neA D132 hcL.1 (by decide) (by omega) (by omega)
 have D133 := ((((H111.1.keep u114 (fun hb => show ¬ (gS = bk2) by first | omega | assumption)).keep u118 (fun hb => show ¬ (gS = bk2) by first | omega | assumption)).keep u125 (fun _ h => h)).keep u129 (fun _ h => h))
 have nSL : gS ≠ gL := Acc.neA D133 hcL.1 (by decide) (by omega) (by omega)
 refine t_field Try.underlying47 rfl Try.sizeOf45 (3) rfl rfl rfl rfl ?_
 have B134 := (B127.kx u129)
 refine t_st (vs := [.slice aoL R.lo.length cL]) Try.sizeOf45 rfl rfl rfl B134 rfl rfl rfl rfl (fun w135 sw135 B137 u136 => ?_)
 have zu136 := u136.size
 have B137 : Blk w135 bk2 47 [.slice aoH R.hl.length cH, .slice aoS R.sl.length cS, .slice R.la R.ld.length R.lc, .slice aoL R.lo.length cL, .slice R.ea R.se.length R.ec] := B137
 refine t_nil' (hK121 _ _ (c_seq fun K139 hK139 => (c_region (t_bslice (ps := []) (cs := []) (e := 97) rfl rfl ⟨rfl, rfl⟩ (fun w => by kernel_rfl) (fun bk140 w141 ebk140 sbk140 B142 u143 => ?_)))))
 have zu143 := u143.size
 refine t_assign rfl rfl rfl (t_nil' (hK139 _ _ (c_seq fun K145 hK145 => (c_seq fun K146 hK146 => (c_region (t_field Try.underlying41 rfl Try.sizeOf39 (0) rfl rfl rfl rfl ?_))))))
 have B147 := ((((((((B9.kx u15).kx u98).keep u114 (by omega)).keep u118 (by omega)).kx u125).kx u129).keep u136 (by omega)).kx u143)
 refine t_load Try.isAgg39 rfl rfl rfl (B147.get rfl) (t_nil' (hK146 _ _ (c_block (c_seq fun K148 hK148 => (c_region (t_cmp rfl rfl rfl rfl rfl (t_samehd (v := .bool true) rfl (t_assign rfl rfl rfl (t_nil' (hK148 _ _ (c_cond_t rfl (c_seq fun K149 hK149 => (c_region (t_field Try.underlying41 rfl Try.sizeOf3 (2) rfl rfl rfl rfl (t_load Try.isAgg3 rfl rfl rfl (B147.get rfl) (t_field Try.underlying41 rfl Try.sizeOf3 (5) rfl rfl rfl rfl (t_load Try.isAgg3 rfl rfl rfl (B147.get rfl) (t_build (ps := [(0, .int .i64 x.bill), (1, .int .i64 x.tons)]) (v := .agg #[.int .i64 x.bill, .int .i64 x.tons, .slice none 0 0]) rfl rfl ⟨rfl, rfl⟩ (fun w => by kernel_rfl) (t_bslice (ps := [(0, .agg #[.int .i64 x.bill, .int .i64 x.tons, .slice none 0 0])]) (cs := [.int .i64 x.bill, .int .i64 x.tons, .slice none 0 0]) (e := 97) rfl rfl ⟨rfl, rfl⟩ (fun w => by kernel_rfl) (fun bk150 w151 ebk150 sbk150 B152 u153 => ?_))))))))))))))))))))
 have zu153 := u153.size
 refine t_assign rfl rfl rfl (t_nil' (hK149 _ _ (c_drawnR follows 9 (by kernel_rfl) (p_field Try.underlying47 rfl Try.sizeOf45 (3) rfl rfl rfl rfl ?_))))
 have B159 := ((B137.kx u143).kx u153)
 refine p_load Try.isAgg45 rfl rfl rfl (B159.get rfl) (p_field Try.underlying41 rfl Try.sizeOf3 (2) rfl rfl rfl rfl ?_)
 have B160 := (B147.kx u153)
 refine p_load Try.isAgg3 rfl rfl rfl (B160.get rfl) ?_
 have D161 := (((hcL.1.keep u136 (fun hb => show ¬ (gL = bk2) by first | omega | assumption)).keep u143 (fun _ h => h)).keep u153 (fun _ h => h))
 have i162 : (x.bill).toNat < R.lo.length := (by omega)
 refine p_index (j := (x.bill).toNat) Try.underlying45 Try.sizeOf3 rfl rfl rfl rfl ((D161.sl (fun _ => rfl)).addr (by omega)) (by omega) i162 (p_load Try.isAgg3 rfl rfl rfl (((D161.sl (fun _ => rfl)).at_ ((x.bill).toNat) (by omega)) 0 _ rfl) (p_field Try.underlying41 rfl Try.sizeOf3 (5) rfl rfl rfl rfl (p_load Try.isAgg3 rfl rfl rfl (B160.get rfl) (p_ari rfl rfl rfl rfl rfl (by omega) (p_nil fun w163 u164 => ?_)))))
 have zu164 := u164.size
 have D166 := (D161.keep u164 (fun _ h => h))
 have i167 : (x.bill).toNat < R.lo.length := (by omega)
 refine t_index (j := (x.bill).toNat) Try.underlying45 Try.sizeOf3 rfl rfl rfl rfl ((D166.sl (fun _ => rfl)).addr (by omega)) (by omega) i167 (t_storeA (vs := [.int .i64 ((nth R.lo ((x.bill).toNat)) + x.tons)]) (j := (x.bill).toNat) (o' := 0) (k := 1) ((nth R.lo ((x.bill).toNat)) + x.tons) (fun _ => rfl) Try.sizeOf3 rfl rfl (by omega) rfl D166 (by omega) rfl rfl (by decide) (by simp [Value.oneCell']) rfl (fun w168 R170 u169 => ?_))
 have zu169 := u169.size
 refine t_nil' (hK145 _ _ (c_seq fun K172 hK172 => (c_region (t_move rfl rfl rfl (t_move rfl rfl rfl ?_)))))
 have B173 := ((B152.kx u164).keep u169 (by omega))
 refine t_call own77 rfl rfl rfl rfl (with_c ([⟨⟨x.bill, x.tons, []⟩, none, 0, 0⟩] : List HLay) (some ⟨bk150, 0, none⟩) bk150 0 1 ev _ (Sl.ofBlk (enc := encHLay) (xs := ([⟨⟨x.bill, x.tons, []⟩, none, 0, 0⟩] : List HLay)) (fun _ => rfl) B173) (fun q hq => by obtain rfl : q = _ := List.mem_singleton.1 hq; exact Sl.nil _ _ _ _ _ _) (by simp) (fun q hq => by obtain rfl : q = _ := List.mem_singleton.1 hq; exact Nat.zero_le _)) (fun v174 w175 r177 => ?_)
 obtain ⟨az9, gz9, cz9, zs9, rfl, hzv9, hzs9, hza9, hzg9, u176⟩ := r177
 have zu176 := u176.size
 have E178 := ((((((E126.nx u129).next u136 (fun i hi h => by omega)).nx u143).nx u153).nx u164).next u169 (fun i hi h => by omega)).nx u176
 have hzl9 : zs9.length = 1 := by have h := congrArg List.length hzv9; simpa using h
 refine t_assign rfl rfl rfl (t_nil' (hK172 _ _ (c_seq fun K179 hK179 => (c_seq fun K180 hK180 => (c_region (t_field Try.underlying41 rfl Try.sizeOf39 (0) rfl rfl rfl rfl ?_))))))
 have B181 := (((B160.kx u164).keep u169 (by omega)).kx u176)
 refine t_load Try.isAgg39 rfl rfl rfl (B181.get rfl) (t_cmp rfl rfl rfl rfl rfl (t_samehd (v := .bool true) rfl (t_nil' (hK180 _ _ (c_cond_t rfl ?_)))))
 have B182 := (((B159.kx u164).keep u169 (by omega)).kx u176)
 refine c_drawnS follows 16 14 [some (91, some (.pointer (some ⟨bk2, 0, none⟩))), some (92, some (.slice aoH R.hl.length cH)), some (93, some (.pointer (some ⟨bk7, 4, none⟩))), some (94, some (.int .i64 x.to)), some (95, none), some (96, some (.pointer (some ⟨bk2, 0, none⟩))), some (97, some (.slice aoH R.hl.length cH)), some (98, some (.pointer (some ⟨bk7, 4, none⟩))), some (99, some (.int .i64 x.to)), some (100, some (.pointer (some ⟨gH, 0 + (x.to).toNat * 1, none⟩))), some (101, some (.slice ((nth R.hl ((x.to).toNat)).ao) ((nth R.hl ((x.to).toNat)).xs.length) ((nth R.hl ((x.to).toNat)).cp))), some (102, none), some (103, some (.slice az9 zs9.length cz9)), some (104, none)] [[],[0],[],[2],[],[],[5],[],[7],[6,8],[9],[4,10],[],[11,12,11],[1,3,0,1,2,3,4,5,6,7,8,9,10,11,12,13],[14,13,13,0,1,2,3,4,5,6,7,8,9,10,11,12,13]] (fun D ρ w => Upd (fun _ => False) w175 w ∧ (D 4 = true → ∃ bF, ρ 4 = .slice (some ⟨bF, 0, none⟩) 0 0 ∧ (D 11 = false → (Blk w bF 97 [] ∧ w175.heap.size ≤ bF))) ∧ (D 11 = true → ∃ aoD gD cD, ρ 11 = .slice aoD ((nth R.hl (x.to).toNat).xs.length) cD ∧ (D 13 = false → Acc encHLay 3 97 w175.heap.size w aoD gD cD (nth R.hl (x.to).toNat).xs)) ∧ (D 13 = true → ∃ aoQ gQ cQ, ρ 13 = .slice aoQ (((nth R.hl (x.to).toNat).xs ++ zs9).length) cQ ∧ (Sl encHLay 3 w aoQ gQ 0 ((nth R.hl (x.to).toNat).xs ++ zs9) ∧ (0 < ((nth R.hl (x.to).toNat).xs ++ zs9).length → w175.heap.size ≤ gQ)))) rfl rfl rfl rfl (by kernel_rfl) (by kernel_rfl) (by kernel_rfl) ⟨(Upd.drew _).to, (fun h => by cases h), (fun h => by cases h), (fun h => by cases h)⟩ ⟨?_, ?_, ?_, ?_, ?_, ?_, ?_, ?_, ?_, ?_, ?_, ?_, ?_, ?_, trivial⟩ ?_
 · exact pzf Try.underlying47 rfl Try.sizeOf33 (0) rfl rfl rfl rfl rfl fun _ _ _ h => h
 · exact fun D ρ w185 hcD hnD hdD hW => ⟨_, kf_fr [91], fun Lr => t_load Try.isAgg33 rfl rfl rfl ((B182.kx hW.1).get rfl) (dz rfl hW)⟩
 · exact pzf Try.underlying41 rfl Try.sizeOf3 (4) rfl rfl rfl rfl rfl fun _ _ _ h => h
 · exact fun D ρ w192 hcD hnD hdD hW => ⟨_, kf_fr [93], fun Lr => t_load Try.isAgg3 rfl rfl rfl ((B181.kx hW.1).get rfl) (dz rfl hW)⟩
 ·
  intro D ρ w199 hcD hnD hdD hW
  obtain ⟨u200, F201, F202, F203⟩ := hW
  have zu200 := u200.size
  refine ⟨[], trivial, fun Lr => ?_⟩
  refine t_bslice (ps := []) (cs := []) (e := 97) rfl rfl ⟨rfl, rfl⟩ (fun w => by kernel_rfl) (fun bF w205 ebF sbF B207 u206 => ?_)
  have zu206 := u206.size
  exact dzn rfl ⟨(u200.next u206 (fun _ _ h => h.elim)), (fun _ => ⟨bF, rfl, fun _ => ⟨B207, by omega⟩⟩), (fun h => absurd ((hcD.late 11 hnD rfl).symm.trans h) (by decide)), (fun h => absurd ((hcD.late 13 (hcD.late 11 hnD rfl) rfl).symm.trans h) (by decide))⟩
 · exact pzf Try.underlying47 rfl Try.sizeOf33 (0) rfl rfl rfl rfl rfl fun _ _ _ h => h
 · exact fun D ρ w209 hcD hnD hdD hW => ⟨_, kf_fr [96], fun Lr => t_load Try.isAgg33 rfl rfl rfl ((B182.kx hW.1).get rfl) (dz rfl hW)⟩
 · exact pzf Try.underlying41 rfl Try.sizeOf3 (4) rfl rfl rfl rfl rfl fun _ _ _ h => h
 · exact fun D ρ w216 hcD hnD hdD hW => ⟨_, kf_fr [98], fun Lr => t_load Try.isAgg3 rfl rfl rfl ((B181.kx hW.1).get rfl) (dz rfl hW)⟩
 · exact fun D ρ w223 hcD hnD hdD hW => ⟨_, kf_fr [97, 99], fun Lr => t_index (j := (x.to).toNat) Try.underlying33 Try.sizeOf36 rfl rfl rfl rfl (((((((((D132.keep u136 (fun hb => show ¬ (gH = bk2) by first | omega | assumption)).keep u143 (fun _ h => h)).keep u153 (fun _ h => h)).keep u164 (fun _ h => h)).keep u169 (fun hb => show ¬ (gH = gL) by first | omega | assumption)).keep u176 (fun _ h => h)).keep hW.1 (fun _ h => h)).sl (fun _ => rfl)).addr (by omega)) (by omega) (by omega) (dz rfl hW)⟩
 · exact fun D ρ w231 hcD hnD hdD hW => ⟨_, kf_fr [100], fun Lr => t_load Try.isAgg36 rfl rfl rfl ((((((((((D132.keep u136 (fun hb => show ¬ (gH = bk2) by first | omega | assumption)).keep u143 (fun _ h => h)).keep u153 (fun _ h => h)).keep u164 (fun _ h => h)).keep u169 (fun hb => show ¬ (gH = gL) by first | omega | assumption)).keep u176 (fun _ h => h)).keep hW.1 (fun _ h => h)).sl (fun _ => rfl)).at_ ((x.to).toNat) (by omega)) 0 _ rfl) (dz rfl hW)⟩
 ·
  intro D ρ w238 hcD hnD hdD hW
  obtain ⟨u239, F240, F241, F242⟩ := hW
  have zu239 := u239.size
  obtain ⟨bF, e244, H245⟩ := F240 (hdD 4 rfl)
  have H246 := H245 hnD
  have agebF := H246.2
  have ltbF := H246.1.lt
  refine ⟨[(95, .slice (some ⟨bF, 0, none⟩) 0 0), (101, .slice ((nth R.hl ((x.to).toNat)).ao) ((nth R.hl ((x.to).toNat)).xs.length) ((nth R.hl ((x.to).toNat)).cp))], ⟨fi 4 rfl rfl e244.symm, fi 10 rfl rfl rfl, trivial⟩, fun Lr => ?_⟩
  refine t_copyE (enc := encHLay) (z := .agg #[.int .i64 0, .int .i64 0, .slice none 0 0]) (bytes := 40) (k := 3) (ys := (nth R.hl (x.to).toNat).xs) Try.underlying36 (by kernel_rfl) rfl (by decide) (fun _ => rfl) (by intro x; simp [encHLay, Value.oneCell']) rfl rfl rfl rfl H246.1 ((hR.lays (nth R.hl ((x.to).toNat)) (nth_mem (by omega))).1.keep (E178.nx u239) (fun _ h => h)) (by omega) (by decide) (fun aoD gD cD w247 A249 u248 geD => ?_)
  have zu248 := u248.size
  exact dzn rfl ⟨(u239.next u248 (fun _ _ h => h.elim)), (fun h => by obtain ⟨bF, e, _⟩ := F240 h; exact ⟨bF, e, fun h => by cases h⟩), (fun _ => ⟨aoD, gD, cD, rfl, fun _ => A249.rebase (by omega) (by omega)⟩), (fun h => absurd ((hcD.late 13 hnD rfl).symm.trans h) (by decide))⟩
 · exact pz rfl rfl rfl rfl fun _ _ _ h => h
 ·
  intro D ρ w251 hcD hnD hdD hW
  obtain ⟨u252, F253, F254, F255⟩ := hW
  have zu252 := u252.size
  obtain ⟨aoD, gD, cD, e257, H258⟩ := F254 (hdD 11 rfl)
  have H259 := H258 hnD
  have ltD := H259.lt
  refine ⟨[(102, .slice aoD ((nth R.hl (x.to).toNat).xs.length) cD), (103, .slice az9 zs9.length cz9)], ⟨fi 11 rfl rfl e257.symm, fi 12 rfl rfl rfl, trivial⟩, fun Lr => ?_⟩
  have D260 := (hzs9.1.keep u252 (fun _ h => h))
  refine t_appendAll (enc := encHLay) (z := .agg #[.int .i64 0, .int .i64 0, .slice none 0 0]) (bytes := 40) (k := 3) (base := w175.heap.size) (ys := zs9) Try.underlying36 (by kernel_rfl) rfl (by decide) (fun _ => rfl) (by intro x; simp [encHLay, Value.oneCell']) rfl rfl rfl rfl H259 D260 (by omega) (by omega) (by omega) (by decide) (fun aoQ gQ cQ w261 A263 u262 geQ lnQ => ?_)
  have zu262 := u262.size
  exact dzn rfl ⟨(u252.next u262 (fun i hi h => by omega)), (fun h => by obtain ⟨bF, e, _⟩ := F253 h; exact ⟨bF, e, fun h2 => absurd ((hdD 11 rfl).symm.trans h2) (by decide)⟩), (fun h => by obtain ⟨aoD, gD, cD, e, _⟩ := F254 h; exact ⟨aoD, gD, cD, e, fun h => by cases h⟩), (fun _ => ⟨aoQ, gQ, cQ, rfl, ⟨A263.sl (fun _ => rfl), fun hp => A263.base_le hp⟩⟩)⟩
 intro ρ w265 hW
 obtain ⟨u266, F267, F268, F269⟩ := hW
 have zu266 := u266.size
 obtain ⟨aoQ, gQ, cQ, e273, H274⟩ := F269 rfl
 have ageQ := H274.2
 refine t_weak [(2, .int .i64 ev), (3, .pointer (some ⟨bk2, 0, none⟩)), (4, .pointer (some ⟨bk7, 0, none⟩)), (6, .pointer (some ⟨bk12, 0, none⟩)), (7, .slice az9 zs9.length cz9), (92, .slice aoH R.hl.length cH), (94, .int .i64 x.to), (104, .slice aoQ (((nth R.hl (x.to).toNat).xs ++ zs9).length) cQ)] ⟨rfl, rfl, rfl, rfl, rfl, rfl, rfl, (look_nd (j := 13) rfl rfl rfl e273), trivial⟩ ?_
 have D275 := (((((((D132.keep u136 (fun hb => show ¬ (gH = bk2) by first | omega | assumption)).keep u143 (fun _ h => h)).keep u153 (fun _ h => h)).keep u164 (fun _ h => h)).keep u169 (fun hb => show ¬ (gH = gL) by first | omega | assumption)).keep u176 (fun _ h => h)).keep u266 (fun _ h => h))
 have i276 : (x.to).toNat < R.hl.length := (by omega)
 refine t_index (j := (x.to).toNat) Try.underlying33 Try.sizeOf36 rfl rfl rfl rfl ((D275.sl (fun _ => rfl)).addr (by omega)) (by omega) i276 (t_storeA (vs := [.slice aoQ (((nth R.hl (x.to).toNat).xs ++ zs9).length) cQ]) (j := (x.to).toNat) (o' := 0) (k := 1) (⟨aoQ, gQ, cQ, (nth R.hl (x.to).toNat).xs ++ zs9⟩ : RowL) (fun _ => rfl) Try.sizeOf36 rfl rfl (by omega) rfl D275 (by omega) rfl rfl (by decide) (by simp [Value.oneCell']) rfl (fun w277 R279 u278 => ?_))
 have zu278 := u278.size
 refine t_nil' (hK179 _ _ (c_seq fun K281 hK281 => (c_seq fun K282 hK282 => (c_region (t_field Try.underlying41 rfl Try.sizeOf39 (0) rfl rfl rfl rfl ?_)))))
 have B283 := ((B181.kx u266).keep u278 (by omega))
 refine t_load Try.isAgg39 rfl rfl rfl (B283.get rfl) (t_cmp rfl rfl rfl rfl rfl (t_samehd (v := .bool false) rfl (t_nil' (hK282 _ _ (c_cond_f rfl (c_skip (hK281 _ _ (c_seq fun K284 hK284 => (c_region ?_)))))))))
 have B285 := ((B182.kx u266).keep u278 (by omega))
 refine t_loadN (vs := [.slice aoH R.hl.length cH, .slice aoS R.sl.length cS, .slice R.la R.ld.length R.lc, .slice aoL R.lo.length cL, .slice R.ea R.se.length R.ec]) Try.isAgg47 Try.sizeOf47 rfl rfl rfl (B285.at.sub 0 5) rfl ?_
 have B286 := (((((((((((((B14.kx u98).keep u114 (by omega)).keep u118 (by omega)).kx u125).kx u129).keep u136 (by omega)).kx u143).kx u153).kx u164).keep u169 (by omega)).kx u176).kx u266).keep u278 (by omega))
 refine t_st (vs := [.slice aoH R.hl.length cH, .slice aoS R.sl.length cS, .slice R.la R.ld.length R.lc, .slice aoL R.lo.length cL, .slice R.ea R.se.length R.ec]) Try.sizeOf47 rfl rfl rfl B286 rfl rfl rfl rfl (fun w287 sw287 B289 u288 => ?_)
 have zu288 := u288.size
 have B289 : Blk w287 bk12 47 [.slice aoH R.hl.length cH, .slice aoS R.sl.length cS, .slice R.la R.ld.length R.lc, .slice aoL R.lo.length cL, .slice R.ea R.se.length R.ec] := B289
 refine t_nil' (hK284 _ _ (c_ret (f_ret1 (v := .agg #[.slice aoH R.hl.length cH, .slice aoS R.sl.length cS, .slice R.la R.ld.length R.lc, .slice aoL R.lo.length cL, .slice R.ea R.se.length R.ec]) Try.results50 ⟨_, _, rfl, run_loadVarN (vs := [.slice aoH R.hl.length cH, .slice aoS R.sl.length cS, .slice R.la R.ld.length R.lc, .slice aoL R.lo.length cL, .slice R.ea R.se.length R.ec]) Try.isAgg47 Try.sizeOf47 rfl (B289.at.sub 0 5)⟩ ?_)))
 have D291 := (R279.keep u288 (fun hb => show ¬ (gH = bk12) by first | omega | assumption))
 have D292 := (((((((((D133.keep u136 (fun hb => show ¬ (gS = bk2) by first | omega | assumption)).keep u143 (fun _ h => h)).keep u153 (fun _ h => h)).keep u164 (fun _ h => h)).keep u169 (fun hb => show ¬ (gS = gL) by first | omega | assumption)).keep u176 (fun _ h => h)).keep u266 (fun _ h => h)).keep u278 (fun hb => show ¬ (gS = gH) by first | omega | assumption)).keep u288 (fun hb => show ¬ (gS = bk12) by first | omega | assumption))
 have D293 := ((((R170.keep u176 (fun _ h => h)).keep u266 (fun _ h => h)).keep u278 (fun hb => show ¬ (gL = gH) by first | omega | assumption)).keep u288 (fun hb => show ¬ (gL = bk12) by first | omega | assumption))
 have D294 := ((H274.1.keep u278 (fun hp => by have h9 := H274.2 hp; show ¬ (gQ = gH); omega)).keep u288 (fun hp => by have h9 := H274.2 hp; show ¬ (gQ = bk12); omega))
 have hst9 : (⟨(R.hl.set (x.to).toNat (⟨aoQ, gQ, cQ, (nth R.hl (x.to).toNat).xs ++ zs9⟩ : RowL)).map (fun r => r.xs.map HLay.v), R.sl, R.ld.map (fun l => ⟨l.ev, l.port, l.xs.map HLay.v⟩), R.lo.set (x.bill).toNat (nth R.lo (x.bill).toNat + x.tons), R.se⟩ : Stt) = stepF R.st x ev := by
   rw [step1 hk, map_setR, show nth R.st.hold (x.to).toNat = (nth R.hl (x.to).toNat).xs.map HLay.v from nth_map (fun r : RowL => r.xs.map HLay.v) (by omega)]
   simp only [List.map_append, hzv9]
   rfl
 have hq9 := D294
 have hu9 := (((E178.nx u266).next u278 (fun i hi h => by omega)).next u288 (fun i hi h => by omega))
 have D295 := (fun z hz => ((fun z hz => ((fun z hz => (hzs9.2 z hz).keep u266 (fun _ h => h)) z hz).keep u278 (fun hp => by have h9 := hza9 z hz hp; show ¬ (z.b = gH); omega)) z hz).keep u288 (fun hp => by have h9 := hza9 z hz hp; show ¬ (z.b = bk12); omega))
 have hlr9 : LaysR w287 aoQ gQ ((nth R.hl (x.to).toNat).xs ++ zs9) := lays_app ((hR.lays _ (nth_mem (by omega))).keep hu9 (fun _ _ h => h)) D295 hq9
 exact ⟨⟨aoH, gH, cH, R.hl.set (x.to).toNat (⟨aoQ, gQ, cQ, (nth R.hl (x.to).toNat).xs ++ zs9⟩ : RowL), aoS, gS, cS, R.sl, R.la, R.lg, R.lc, R.ld, aoL, gL, cL, R.lo.set (x.bill).toNat (nth R.lo (x.bill).toNat + x.tons), R.ea, R.eg, R.ec, R.se⟩, by simp [RG.cells], hst9, ⟨D291.sl (fun _ => rfl), lays_set (fun r hr => (hR.lays r hr).keep hu9 (fun _ _ h => h)) hlr9, D292.sl (fun _ => rfl), hR.land.keep hu9 (fun _ h => h), fun q hq => (hR.parts q hq).keep hu9 (fun _ _ h => h), D293.sl (fun _ => rfl), hR.seals.keep hu9 (fun _ h => h)⟩, by show R.se.length ≤ R.se.length + 1; omega, fun T hB hT => ⟨fun _ => hT gH (by omega), all_set hB.lays ((hB.lays _ (nth_mem (by omega))).app (fun z hz hp => hT z.b (by have h := hza9 z hz hp; omega)) (fun hp => hT gQ (by have h := ageQ hp; omega))), fun _ => hT gS (by omega), hB.land, hB.parts, fun _ => hT gL (by omega), hB.seals⟩, hu9⟩

end Go.Proofs.Ytgkkgpenmppjcaa
