/-
  The small functions of the laws on events by small numbers. Conditions: none.
-/
import Derived.Test.YtblkphbblkncdaaA18
import Derived.Test.YtblkphbblkncdaaIdv
import Derived.Test.YtblkphbblkncdaaSeq
namespace Go.Proofs.Ytblkphbblkncdaa
open Go Go.RowKit

/-- Five small numbers. -/
structure X5 where
  a : Int
  b : Int
  c : Int
  d : Int
  e : Int
instance : Inhabited X5 := ⟨⟨default, default, default, default, default⟩⟩
def encX5 (x : X5) : List Value := [.int .u8 x.a, .int .u8 x.b, .int .u8 x.c, .int .u8 x.d, .int .u8 x.e]
def okX5 (x : X5) : Prop := (0 ≤ x.a ∧ x.a ≤ 255) ∧ (0 ≤ x.b ∧ x.b ≤ 255) ∧ (0 ≤ x.c ∧ x.c ≤ 255) ∧ (0 ≤ x.d ∧ x.d ≤ 255) ∧ (0 ≤ x.e ∧ x.e ≤ 255)
def fourB : List Bil := [⟨300, 1, 5⟩, ⟨200, 1, 6⟩, ⟨400, 2, 5⟩, ⟨90, 2, 7⟩]
def fourH : List Hld := [⟨0, 250⟩, ⟨0, 300⟩, ⟨1, 200⟩, ⟨1, 500⟩]
/-- An event by small numbers. -/
def evOf (x : X5) (i : Int) : Ev :=
  if 1 + x.a % 5 = 1 then ⟨1 + x.a % 5, i, x.b % 4, 0, x.d % 4, 1 + x.e, 1 + x.b % 4 / 2, 0⟩
  else if 1 + x.a % 5 = 2 then ⟨1 + x.a % 5, i, 0, x.c % 4, x.d % 4, 1 + x.e, 0, 0⟩
  else if 1 + x.a % 5 = 3 then ⟨1 + x.a % 5, i, 0, x.c % 4, 0, 1 + x.e, 4 + x.b % 4, 0⟩
  else if 1 + x.a % 5 = 4 then ⟨1 + x.a % 5, i, 0, 0, x.d % 4, 0, 0, 1 + x.e⟩
  else ⟨1 + x.a % 5, i, 0, x.c % 4, 0, 0, 0, 0⟩
theorem own32 : Own Try.prog 32 := ⟨Try.f32, Try.func32, by kernel_rfl, by kernel_rfl⟩
theorem own65 : Own Try.prog 65 := ⟨Try.f65, Try.func65, by kernel_rfl, by kernel_rfl⟩

theorem four_c  (w0 : World) :
    CallsV Try.prog 32 [] w0 (fun v w' => ∃ b1 b2, v = .agg #[.slice (some ⟨b1, 0, none⟩) 4 4, .slice (some ⟨b2, 0, none⟩) 4 4] ∧ Sl encBil 3 w' (some ⟨b1, 0, none⟩) b1 0 fourB ∧ Sl encHld 2 w' (some ⟨b2, 0, none⟩) b2 0 fourH ∧ w0.heap.size ≤ b1 ∧ w0.heap.size ≤ b2 ∧ Ext w0 w') := by
 refine f_enter (N := 12) Try.func32 rfl rfl rfl (c_seq fun K1 hK1 => (c_region (t_alloc (cs := [.slice none 0 0, .slice none 0 0]) Try.zeroValue25 rfl rfl rfl (fun bk2 w3 ebk2 sbk2 B4 u5 => ?_))))
 have zu5 := u5.size
 refine t_nil' (hK1 _ _ (c_seq fun K7 hK7 => (c_region (t_build (ps := [(0, .int .i64 300), (1, .int .i64 1), (2, .int .i64 5)]) (v := .agg #[.int .i64 300, .int .i64 1, .int .i64 5]) rfl rfl ⟨rfl, rfl⟩ (fun w => by kernel_rfl) (t_build (ps := [(0, .int .i64 200), (1, .int .i64 1), (2, .int .i64 6)]) (v := .agg #[.int .i64 200, .int .i64 1, .int .i64 6]) rfl rfl ⟨rfl, rfl⟩ (fun w => by kernel_rfl) (t_build (ps := [(0, .int .i64 400), (1, .int .i64 2), (2, .int .i64 5)]) (v := .agg #[.int .i64 400, .int .i64 2, .int .i64 5]) rfl rfl ⟨rfl, rfl⟩ (fun w => by kernel_rfl) (t_build (ps := [(0, .int .i64 90), (1, .int .i64 2), (2, .int .i64 7)]) (v := .agg #[.int .i64 90, .int .i64 2, .int .i64 7]) rfl rfl ⟨rfl, rfl⟩ (fun w => by kernel_rfl) (t_bslice (ps := [(0, .agg #[.int .i64 300, .int .i64 1, .int .i64 5]), (1, .agg #[.int .i64 200, .int .i64 1, .int .i64 6]), (2, .agg #[.int .i64 400, .int .i64 2, .int .i64 5]), (3, .agg #[.int .i64 90, .int .i64 2, .int .i64 7])]) (cs := [.int .i64 300, .int .i64 1, .int .i64 5, .int .i64 200, .int .i64 1, .int .i64 6, .int .i64 400, .int .i64 2, .int .i64 5, .int .i64 90, .int .i64 2, .int .i64 7]) (e := 93) rfl rfl ⟨rfl, rfl⟩ (fun w => by kernel_rfl) (fun bk8 w9 ebk8 sbk8 B10 u11 => ?_)))))))))
 have zu11 := u11.size
 refine t_build (ps := [(1, .int .i64 250)]) (v := .agg #[.int .i64 0, .int .i64 250]) rfl rfl ⟨rfl, rfl⟩ (fun w => by kernel_rfl) (t_build (ps := [(1, .int .i64 300)]) (v := .agg #[.int .i64 0, .int .i64 300]) rfl rfl ⟨rfl, rfl⟩ (fun w => by kernel_rfl) (t_build (ps := [(0, .int .i64 1), (1, .int .i64 200)]) (v := .agg #[.int .i64 1, .int .i64 200]) rfl rfl ⟨rfl, rfl⟩ (fun w => by kernel_rfl) (t_build (ps := [(0, .int .i64 1), (1, .int .i64 500)]) (v := .agg #[.int .i64 1, .int .i64 500]) rfl rfl ⟨rfl, rfl⟩ (fun w => by kernel_rfl) (t_bslice (ps := [(0, .agg #[.int .i64 0, .int .i64 250]), (1, .agg #[.int .i64 0, .int .i64 300]), (2, .agg #[.int .i64 1, .int .i64 200]), (3, .agg #[.int .i64 1, .int .i64 500])]) (cs := [.int .i64 0, .int .i64 250, .int .i64 0, .int .i64 300, .int .i64 1, .int .i64 200, .int .i64 1, .int .i64 500]) (e := 90) rfl rfl ⟨rfl, rfl⟩ (fun w => by kernel_rfl) (fun bk13 w14 ebk13 sbk13 B15 u16 => ?_)))))
 have zu16 := u16.size
 refine t_build (ps := [(0, .slice (some ⟨bk8, 0, none⟩) 4 4), (1, .slice (some ⟨bk13, 0, none⟩) 4 4)]) (v := .agg #[.slice (some ⟨bk8, 0, none⟩) 4 4, .slice (some ⟨bk13, 0, none⟩) 4 4]) rfl rfl ⟨rfl, rfl⟩ (fun w => by kernel_rfl) ?_
 have B18 := ((B4.kx u11).kx u16)
 refine t_st (vs := [.slice (some ⟨bk8, 0, none⟩) 4 4, .slice (some ⟨bk13, 0, none⟩) 4 4]) Try.sizeOf25 rfl rfl rfl B18 rfl rfl rfl rfl (fun w19 sw19 B21 u20 => ?_)
 have zu20 := u20.size
 have B21 : Blk w19 bk2 25 [.slice (some ⟨bk8, 0, none⟩) 4 4, .slice (some ⟨bk13, 0, none⟩) 4 4] := B21
 refine t_nil' (hK7 _ _ (c_ret (f_ret1 (v := .agg #[.slice (some ⟨bk8, 0, none⟩) 4 4, .slice (some ⟨bk13, 0, none⟩) 4 4]) Try.results32 ⟨_, _, rfl, run_loadVarN (vs := [.slice (some ⟨bk8, 0, none⟩) 4 4, .slice (some ⟨bk13, 0, none⟩) 4 4]) Try.isAgg25 Try.sizeOf25 rfl (B21.at.sub 0 2)⟩ ?_)))
 have B23 := ((B10.kx u16).keep u20 (by omega))
 have B24 := (B15.keep u20 (by omega))
 exact ⟨bk8, bk13, rfl, Sl.ofBlk (enc := encBil) (xs := fourB) (fun _ => rfl) B23, Sl.ofBlk (enc := encHld) (xs := fourH) (fun _ => rfl) B24, by omega, by omega, (((((Upd.refl (fun _ => False) w0).nx u5).nx u11).nx u16).next u20 (fun i hi h => by omega))⟩

set_option maxHeartbeats 1000000 in
theorem event_c (x : X5) (i : Int) (w0 : World) (hx : okX5 x) :
    CallsV Try.prog 65 [.agg #[.int .u8 x.a, .int .u8 x.b, .int .u8 x.c, .int .u8 x.d, .int .u8 x.e], .int .i64 i] w0 (fun v w' => v = .agg (encEv (evOf x i)).toArray ∧ Ext w0 w') := by
 unfold okX5 at hx
 refine f_enter (N := 76) Try.func65 rfl rfl rfl (c_seq fun K1 hK1 => (c_region (t_box (cs := [.int .u8 x.a, .int .u8 x.b, .int .u8 x.c, .int .u8 x.d, .int .u8 x.e]) rfl rfl rfl rfl (fun bk2 w3 ebk2 sbk2 B4 u5 => ?_))))
 have zu5 := u5.size
 refine t_alloc (cs := [.int .i64 0, .int .i64 0, .int .i64 0, .int .i64 0, .int .i64 0, .int .i64 0, .int .i64 0, .int .i64 0]) Try.zeroValue41 rfl rfl rfl (fun bk7 w8 ebk7 sbk7 B9 u10 => ?_)
 have zu10 := u10.size
 refine t_nil' (hK1 _ _ (c_seq fun K12 hK12 => (c_region (t_indexArr (j := 0) (0) Try.underlying103 Try.sizeOf5 rfl rfl rfl rfl rfl (by decide) rfl ?_))))
 have B13 := (B4.kx u10)
 refine t_load Try.isAgg5 rfl rfl rfl (B13.get rfl) (t_conv Try.underlying5 Try.underlying3 rfl rfl rfl (IntWalk.i64_in _ (by omega)) (t_rem rfl rfl rfl rfl (by omega) (by omega) (t_ari rfl rfl rfl rfl rfl (by omega) (t_move rfl rfl rfl (t_build (ps := [(0, .int .i64 (1 + (x.a % 5))), (1, .int .i64 i)]) (v := .agg #[.int .i64 (1 + (x.a % 5)), .int .i64 i, .int .i64 0, .int .i64 0, .int .i64 0, .int .i64 0, .int .i64 0, .int .i64 0]) rfl rfl ⟨rfl, rfl⟩ (fun w => by kernel_rfl) (t_alloc (cs := [.int .i64 0, .int .i64 0, .int .i64 0, .int .i64 0, .int .i64 0, .int .i64 0, .int .i64 0, .int .i64 0]) Try.zeroValue41 rfl rfl rfl (fun bk14 w15 ebk14 sbk14 B16 u17 => ?_)))))))
 have zu17 := u17.size
 refine t_st (vs := [.int .i64 (1 + (x.a % 5)), .int .i64 i, .int .i64 0, .int .i64 0, .int .i64 0, .int .i64 0, .int .i64 0, .int .i64 0]) Try.sizeOf41 rfl rfl rfl B16 rfl rfl rfl rfl (fun w19 sw19 B21 u20 => ?_)
 have zu20 := u20.size
 have B21 : Blk w19 bk14 41 [.int .i64 (1 + (x.a % 5)), .int .i64 i, .int .i64 0, .int .i64 0, .int .i64 0, .int .i64 0, .int .i64 0, .int .i64 0] := B21
 refine t_nil' (hK12 _ _ (c_seq fun K23 hK23 => (c_drawnQ follows (by kernel_rfl) (p_indexArr (j := 1) (1) Try.underlying103 Try.sizeOf5 rfl rfl rfl rfl rfl (by decide) rfl ?_))))
 have B25 := ((B13.kx u17).keep u20 (by omega))
 refine p_load Try.isAgg5 rfl rfl rfl (B25.get rfl) (p_conv Try.underlying5 Try.underlying3 rfl rfl rfl (IntWalk.i64_in _ (by omega)) (p_rem rfl rfl rfl rfl (by omega) (by omega) (p_indexArr (j := 2) (2) Try.underlying103 Try.sizeOf5 rfl rfl rfl rfl rfl (by decide) rfl (p_load Try.isAgg5 rfl rfl rfl (B25.get rfl) (p_conv Try.underlying5 Try.underlying3 rfl rfl rfl (IntWalk.i64_in _ (by omega)) (p_rem rfl rfl rfl rfl (by omega) (by omega) (p_indexArr (j := 3) (3) Try.underlying103 Try.sizeOf5 rfl rfl rfl rfl rfl (by decide) rfl (p_load Try.isAgg5 rfl rfl rfl (B25.get rfl) (p_conv Try.underlying5 Try.underlying3 rfl rfl rfl (IntWalk.i64_in _ (by omega)) (p_rem rfl rfl rfl rfl (by omega) (by omega) (p_indexArr (j := 4) (4) Try.underlying103 Try.sizeOf5 rfl rfl rfl rfl rfl (by decide) rfl (p_load Try.isAgg5 rfl rfl rfl (B25.get rfl) (p_conv Try.underlying5 Try.underlying3 rfl rfl rfl (IntWalk.i64_in _ (by omega)) (p_ari rfl rfl rfl rfl rfl (by omega) (p_assign rfl rfl rfl (p_assign rfl rfl rfl (p_assign rfl rfl rfl (p_assign rfl rfl rfl (p_nil fun w26 u27 => ?_)))))))))))))))))))
 have zu27 := u27.size
 have E28 := (((((Upd.refl (fun _ => False) w0).nx u5).nx u10).nx u17).next u20 (fun i hi h => by omega)).nx u27
 refine t_nil' (hK23 _ _ (c_seq fun K29 hK29 => (c_seq fun K30 hK30 => (c_region (t_field Try.underlying41 rfl Try.sizeOf39 (0) rfl rfl rfl rfl ?_)))))
 have B31 := (B21.kx u27)
 refine t_load Try.isAgg39 rfl rfl rfl (B31.get rfl) (t_nil' (hK30 _ _ (c_block (c_seq fun K32 hK32 => (c_region (t_cmp rfl rfl rfl rfl rfl (t_assign rfl rfl rfl (t_nil' (hK32 _ _ (c_condp rfl (fun g37 => ?_) (fun g37 => ?_)))))))))))
 ·
  refine c_region (t_move rfl rfl rfl (t_move rfl rfl rfl (t_move rfl rfl rfl (t_move rfl rfl rfl (t_quo rfl rfl rfl rfl (by omega) (by omega) (t_ari rfl rfl rfl rfl rfl (by omega) (t_field Try.underlying41 rfl Try.sizeOf3 (2) rfl rfl rfl rfl (t_st (vs := [.int .i64 (x.b % 4)]) Try.sizeOf3 rfl rfl rfl B31 rfl rfl rfl rfl (fun w33 sw33 B35 u34 => ?_)))))))))
  have zu34 := u34.size
  have B35 : Blk w33 bk14 41 [.int .i64 (1 + (x.a % 5)), .int .i64 i, .int .i64 (x.b % 4), .int .i64 0, .int .i64 0, .int .i64 0, .int .i64 0, .int .i64 0] := B35
  refine t_field Try.underlying41 rfl Try.sizeOf3 (4) rfl rfl rfl rfl (t_st (vs := [.int .i64 (x.d % 4)]) Try.sizeOf3 rfl rfl rfl B35 rfl rfl rfl rfl (fun w37 sw37 B39 u38 => ?_))
  have zu38 := u38.size
  have B39 : Blk w37 bk14 41 [.int .i64 (1 + (x.a % 5)), .int .i64 i, .int .i64 (x.b % 4), .int .i64 0, .int .i64 (x.d % 4), .int .i64 0, .int .i64 0, .int .i64 0] := B39
  refine t_field Try.underlying41 rfl Try.sizeOf3 (5) rfl rfl rfl rfl (t_st (vs := [.int .i64 (1 + x.e)]) Try.sizeOf3 rfl rfl rfl B39 rfl rfl rfl rfl (fun w41 sw41 B43 u42 => ?_))
  have zu42 := u42.size
  have B43 : Blk w41 bk14 41 [.int .i64 (1 + (x.a % 5)), .int .i64 i, .int .i64 (x.b % 4), .int .i64 0, .int .i64 (x.d % 4), .int .i64 (1 + x.e), .int .i64 0, .int .i64 0] := B43
  refine t_field Try.underlying41 rfl Try.sizeOf3 (6) rfl rfl rfl rfl (t_st (vs := [.int .i64 (1 + ((x.b % 4) / 2))]) Try.sizeOf3 rfl rfl rfl B43 rfl rfl rfl rfl (fun w45 sw45 B47 u46 => ?_))
  have zu46 := u46.size
  have B47 : Blk w45 bk14 41 [.int .i64 (1 + (x.a % 5)), .int .i64 i, .int .i64 (x.b % 4), .int .i64 0, .int .i64 (x.d % 4), .int .i64 (1 + x.e), .int .i64 (1 + ((x.b % 4) / 2)), .int .i64 0] := B47
  refine t_nil' (hK29 _ _ (c_seq fun K49 hK49 => (c_region (t_loadN (vs := [.int .i64 (1 + (x.a % 5)), .int .i64 i, .int .i64 (x.b % 4), .int .i64 0, .int .i64 (x.d % 4), .int .i64 (1 + x.e), .int .i64 (1 + ((x.b % 4) / 2)), .int .i64 0]) Try.isAgg41 Try.sizeOf41 rfl rfl rfl (B47.at.sub 0 8) rfl ?_))))
  have B50 := (((((((B9.kx u17).keep u20 (by omega)).kx u27).keep u34 (by omega)).keep u38 (by omega)).keep u42 (by omega)).keep u46 (by omega))
  refine t_st (vs := [.int .i64 (1 + (x.a % 5)), .int .i64 i, .int .i64 (x.b % 4), .int .i64 0, .int .i64 (x.d % 4), .int .i64 (1 + x.e), .int .i64 (1 + ((x.b % 4) / 2)), .int .i64 0]) Try.sizeOf41 rfl rfl rfl B50 rfl rfl rfl rfl (fun w51 sw51 B53 u52 => ?_)
  have zu52 := u52.size
  have B53 : Blk w51 bk7 41 [.int .i64 (1 + (x.a % 5)), .int .i64 i, .int .i64 (x.b % 4), .int .i64 0, .int .i64 (x.d % 4), .int .i64 (1 + x.e), .int .i64 (1 + ((x.b % 4) / 2)), .int .i64 0] := B53
  refine t_nil' (hK49 _ _ (c_ret (f_ret1 (v := .agg #[.int .i64 (1 + (x.a % 5)), .int .i64 i, .int .i64 (x.b % 4), .int .i64 0, .int .i64 (x.d % 4), .int .i64 (1 + x.e), .int .i64 (1 + ((x.b % 4) / 2)), .int .i64 0]) Try.results65 ⟨_, _, rfl, run_loadVarN (vs := [.int .i64 (1 + (x.a % 5)), .int .i64 i, .int .i64 (x.b % 4), .int .i64 0, .int .i64 (x.d % 4), .int .i64 (1 + x.e), .int .i64 (1 + ((x.b % 4) / 2)), .int .i64 0]) Try.isAgg41 Try.sizeOf41 rfl (B53.at.sub 0 8)⟩ ?_)))
  exact ⟨by rw [evOf, if_pos g37]; rfl, (((((E28.next u34 (fun i hi h => by omega)).next u38 (fun i hi h => by omega)).next u42 (fun i hi h => by omega)).next u46 (fun i hi h => by omega)).next u52 (fun i hi h => by omega))⟩
 refine c_seq fun K55 hK55 => (c_region (t_cmp rfl rfl rfl rfl rfl (t_assign rfl rfl rfl (t_nil' (hK55 _ _ (c_condp rfl (fun g49 => ?_) (fun g49 => ?_)))))))
 ·
  refine c_region (t_move rfl rfl rfl (t_move rfl rfl rfl (t_move rfl rfl rfl (t_field Try.underlying41 rfl Try.sizeOf3 (3) rfl rfl rfl rfl (t_st (vs := [.int .i64 (x.c % 4)]) Try.sizeOf3 rfl rfl rfl B31 rfl rfl rfl rfl (fun w56 sw56 B58 u57 => ?_))))))
  have zu57 := u57.size
  have B58 : Blk w56 bk14 41 [.int .i64 (1 + (x.a % 5)), .int .i64 i, .int .i64 0, .int .i64 (x.c % 4), .int .i64 0, .int .i64 0, .int .i64 0, .int .i64 0] := B58
  refine t_field Try.underlying41 rfl Try.sizeOf3 (4) rfl rfl rfl rfl (t_st (vs := [.int .i64 (x.d % 4)]) Try.sizeOf3 rfl rfl rfl B58 rfl rfl rfl rfl (fun w60 sw60 B62 u61 => ?_))
  have zu61 := u61.size
  have B62 : Blk w60 bk14 41 [.int .i64 (1 + (x.a % 5)), .int .i64 i, .int .i64 0, .int .i64 (x.c % 4), .int .i64 (x.d % 4), .int .i64 0, .int .i64 0, .int .i64 0] := B62
  refine t_field Try.underlying41 rfl Try.sizeOf3 (5) rfl rfl rfl rfl (t_st (vs := [.int .i64 (1 + x.e)]) Try.sizeOf3 rfl rfl rfl B62 rfl rfl rfl rfl (fun w64 sw64 B66 u65 => ?_))
  have zu65 := u65.size
  have B66 : Blk w64 bk14 41 [.int .i64 (1 + (x.a % 5)), .int .i64 i, .int .i64 0, .int .i64 (x.c % 4), .int .i64 (x.d % 4), .int .i64 (1 + x.e), .int .i64 0, .int .i64 0] := B66
  refine t_nil' (hK29 _ _ (c_seq fun K68 hK68 => (c_region (t_loadN (vs := [.int .i64 (1 + (x.a % 5)), .int .i64 i, .int .i64 0, .int .i64 (x.c % 4), .int .i64 (x.d % 4), .int .i64 (1 + x.e), .int .i64 0, .int .i64 0]) Try.isAgg41 Try.sizeOf41 rfl rfl rfl (B66.at.sub 0 8) rfl ?_))))
  have B69 := ((((((B9.kx u17).keep u20 (by omega)).kx u27).keep u57 (by omega)).keep u61 (by omega)).keep u65 (by omega))
  refine t_st (vs := [.int .i64 (1 + (x.a % 5)), .int .i64 i, .int .i64 0, .int .i64 (x.c % 4), .int .i64 (x.d % 4), .int .i64 (1 + x.e), .int .i64 0, .int .i64 0]) Try.sizeOf41 rfl rfl rfl B69 rfl rfl rfl rfl (fun w70 sw70 B72 u71 => ?_)
  have zu71 := u71.size
  have B72 : Blk w70 bk7 41 [.int .i64 (1 + (x.a % 5)), .int .i64 i, .int .i64 0, .int .i64 (x.c % 4), .int .i64 (x.d % 4), .int .i64 (1 + x.e), .int .i64 0, .int .i64 0] := B72
  refine t_nil' (hK68 _ _ (c_ret (f_ret1 (v := .agg #[.int .i64 (1 + (x.a % 5)), .int .i64 i, .int .i64 0, .int .i64 (x.c % 4), .int .i64 (x.d % 4), .int .i64 (1 + x.e), .int .i64 0, .int .i64 0]) Try.results65 ⟨_, _, rfl, run_loadVarN (vs := [.int .i64 (1 + (x.a % 5)), .int .i64 i, .int .i64 0, .int .i64 (x.c % 4), .int .i64 (x.d % 4), .int .i64 (1 + x.e), .int .i64 0, .int .i64 0]) Try.isAgg41 Try.sizeOf41 rfl (B72.at.sub 0 8)⟩ ?_)))
  exact ⟨by rw [evOf, if_neg g37, if_pos g49]; rfl, ((((E28.next u57 (fun i hi h => by omega)).next u61 (fun i hi h => by omega)).next u65 (fun i hi h => by omega)).next u71 (fun i hi h => by omega))⟩
 refine c_seq fun K74 hK74 => (c_region (t_cmp rfl rfl rfl rfl rfl (t_assign rfl rfl rfl (t_nil' (hK74 _ _ (c_condp rfl (fun g57 => ?_) (fun g57 => ?_)))))))
 ·
  refine c_drawnM follows (fun i => i = bk14) (.look 0 (.look 1 (.look 2 (.look 3 (.look 4 (.look 5 (.look 6 (.look 7 (.act 8 (.look 9 (.act 10 (.look 11 (.act 12 .done .stop)) .stop)) .stop))))))))) (by kernel_rfl) fun w75 u76 => ?_
  have zu76 := u76.size
  refine y_move rfl rfl rfl (y_move rfl rfl rfl (y_indexArr (j := 1) (1) Try.underlying103 Try.sizeOf5 rfl rfl rfl rfl rfl (by decide) rfl ?_))
  have B78 := ((B25.kx u27).kx u76)
  refine y_load Try.isAgg5 rfl rfl rfl (B78.get rfl) (by show ¬ (bk2 = bk14); first | omega | assumption) (y_conv Try.underlying5 Try.underlying3 rfl rfl rfl (IntWalk.i64_in _ (by omega)) (y_rem rfl rfl rfl rfl (by omega) (by omega) (y_ari rfl rfl rfl rfl rfl (by omega) (y_field Try.underlying41 rfl Try.sizeOf3 (3) rfl rfl rfl rfl (s_do ?_)))))
  have B79 := (B31.kx u76)
  refine t_st (vs := [.int .i64 (x.c % 4)]) Try.sizeOf3 rfl rfl rfl B79 rfl rfl rfl rfl (fun w80 sw80 B82 u81 => ?_)
  have zu81 := u81.size
  have B82 : Blk w80 bk14 41 [.int .i64 (1 + (x.a % 5)), .int .i64 i, .int .i64 0, .int .i64 (x.c % 4), .int .i64 0, .int .i64 0, .int .i64 0, .int .i64 0] := B82
  refine s_next ((Upd.refl _ _).next u81 (fun i hi (h : i = bk14) => show w75.heap.size ≤ i ∨ (i = bk14) by first | omega | exact .inr h)) (y_field Try.underlying41 rfl Try.sizeOf3 (5) rfl rfl rfl rfl (s_do (t_st (vs := [.int .i64 (1 + x.e)]) Try.sizeOf3 rfl rfl rfl B82 rfl rfl rfl rfl (fun w84 sw84 B86 u85 => ?_))))
  have zu85 := u85.size
  have B86 : Blk w84 bk14 41 [.int .i64 (1 + (x.a % 5)), .int .i64 i, .int .i64 0, .int .i64 (x.c % 4), .int .i64 0, .int .i64 (1 + x.e), .int .i64 0, .int .i64 0] := B86
  refine s_next ((Upd.refl _ _).next u85 (fun i hi (h : i = bk14) => show w75.heap.size ≤ i ∨ (i = bk14) by first | omega | exact .inr h)) (y_field Try.underlying41 rfl Try.sizeOf3 (6) rfl rfl rfl rfl (s_do (t_st (vs := [.int .i64 (4 + (x.b % 4))]) Try.sizeOf3 rfl rfl rfl B86 rfl rfl rfl rfl (fun w88 sw88 B90 u89 => ?_))))
  have zu89 := u89.size
  have B90 : Blk w88 bk14 41 [.int .i64 (1 + (x.a % 5)), .int .i64 i, .int .i64 0, .int .i64 (x.c % 4), .int .i64 0, .int .i64 (1 + x.e), .int .i64 (4 + (x.b % 4)), .int .i64 0] := B90
  refine s_next ((Upd.refl _ _).next u89 (fun i hi (h : i = bk14) => show w75.heap.size ≤ i ∨ (i = bk14) by first | omega | exact .inr h)) (s_nil (hK29 _ _ (c_seq fun K92 hK92 => (c_region (t_loadN (vs := [.int .i64 (1 + (x.a % 5)), .int .i64 i, .int .i64 0, .int .i64 (x.c % 4), .int .i64 0, .int .i64 (1 + x.e), .int .i64 (4 + (x.b % 4)), .int .i64 0]) Try.isAgg41 Try.sizeOf41 rfl rfl rfl (B90.at.sub 0 8) rfl ?_)))))
  have B93 := (((((((B9.kx u17).keep u20 (by omega)).kx u27).kx u76).keep u81 (by omega)).keep u85 (by omega)).keep u89 (by omega))
  refine t_st (vs := [.int .i64 (1 + (x.a % 5)), .int .i64 i, .int .i64 0, .int .i64 (x.c % 4), .int .i64 0, .int .i64 (1 + x.e), .int .i64 (4 + (x.b % 4)), .int .i64 0]) Try.sizeOf41 rfl rfl rfl B93 rfl rfl rfl rfl (fun w94 sw94 B96 u95 => ?_)
  have zu95 := u95.size
  have B96 : Blk w94 bk7 41 [.int .i64 (1 + (x.a % 5)), .int .i64 i, .int .i64 0, .int .i64 (x.c % 4), .int .i64 0, .int .i64 (1 + x.e), .int .i64 (4 + (x.b % 4)), .int .i64 0] := B96
  refine t_nil' (hK92 _ _ (c_ret (f_ret1 (v := .agg #[.int .i64 (1 + (x.a % 5)), .int .i64 i, .int .i64 0, .int .i64 (x.c % 4), .int .i64 0, .int .i64 (1 + x.e), .int .i64 (4 + (x.b % 4)), .int .i64 0]) Try.results65 ⟨_, _, rfl, run_loadVarN (vs := [.int .i64 (1 + (x.a % 5)), .int .i64 i, .int .i64 0, .int .i64 (x.c % 4), .int .i64 0, .int .i64 (1 + x.e), .int .i64 (4 + (x.b % 4)), .int .i64 0]) Try.isAgg41 Try.sizeOf41 rfl (B96.at.sub 0 8)⟩ ?_)))
  exact ⟨by rw [evOf, if_neg g37, if_neg g49, if_pos g57]; rfl, (((((E28.nx u76).next u81 (fun i hi h => by omega)).next u85 (fun i hi h => by omega)).next u89 (fun i hi h => by omega)).next u95 (fun i hi h => by omega))⟩
 refine c_seq fun K98 hK98 => (c_region (t_cmp rfl rfl rfl rfl rfl (t_assign rfl rfl rfl (t_nil' (hK98 _ _ (c_condp rfl (fun g69 => ?_) (fun g69 => ?_)))))))
 ·
  refine c_region (t_move rfl rfl rfl (t_move rfl rfl rfl (t_field Try.underlying41 rfl Try.sizeOf3 (4) rfl rfl rfl rfl (t_st (vs := [.int .i64 (x.d % 4)]) Try.sizeOf3 rfl rfl rfl B31 rfl rfl rfl rfl (fun w99 sw99 B101 u100 => ?_)))))
  have zu100 := u100.size
  have B101 : Blk w99 bk14 41 [.int .i64 (1 + (x.a % 5)), .int .i64 i, .int .i64 0, .int .i64 0, .int .i64 (x.d % 4), .int .i64 0, .int .i64 0, .int .i64 0] := B101
  refine t_field Try.underlying41 rfl Try.sizeOf3 (7) rfl rfl rfl rfl (t_st (vs := [.int .i64 (1 + x.e)]) Try.sizeOf3 rfl rfl rfl B101 rfl rfl rfl rfl (fun w103 sw103 B105 u104 => ?_))
  have zu104 := u104.size
  have B105 : Blk w103 bk14 41 [.int .i64 (1 + (x.a % 5)), .int .i64 i, .int .i64 0, .int .i64 0, .int .i64 (x.d % 4), .int .i64 0, .int .i64 0, .int .i64 (1 + x.e)] := B105
  refine t_nil' (hK29 _ _ (c_seq fun K107 hK107 => (c_region (t_loadN (vs := [.int .i64 (1 + (x.a % 5)), .int .i64 i, .int .i64 0, .int .i64 0, .int .i64 (x.d % 4), .int .i64 0, .int .i64 0, .int .i64 (1 + x.e)]) Try.isAgg41 Try.sizeOf41 rfl rfl rfl (B105.at.sub 0 8) rfl ?_))))
  have B108 := (((((B9.kx u17).keep u20 (by omega)).kx u27).keep u100 (by omega)).keep u104 (by omega))
  refine t_st (vs := [.int .i64 (1 + (x.a % 5)), .int .i64 i, .int .i64 0, .int .i64 0, .int .i64 (x.d % 4), .int .i64 0, .int .i64 0, .int .i64 (1 + x.e)]) Try.sizeOf41 rfl rfl rfl B108 rfl rfl rfl rfl (fun w109 sw109 B111 u110 => ?_)
  have zu110 := u110.size
  have B111 : Blk w109 bk7 41 [.int .i64 (1 + (x.a % 5)), .int .i64 i, .int .i64 0, .int .i64 0, .int .i64 (x.d % 4), .int .i64 0, .int .i64 0, .int .i64 (1 + x.e)] := B111
  refine t_nil' (hK107 _ _ (c_ret (f_ret1 (v := .agg #[.int .i64 (1 + (x.a % 5)), .int .i64 i, .int .i64 0, .int .i64 0, .int .i64 (x.d % 4), .int .i64 0, .int .i64 0, .int .i64 (1 + x.e)]) Try.results65 ⟨_, _, rfl, run_loadVarN (vs := [.int .i64 (1 + (x.a % 5)), .int .i64 i, .int .i64 0, .int .i64 0, .int .i64 (x.d % 4), .int .i64 0, .int .i64 0, .int .i64 (1 + x.e)]) Try.isAgg41 Try.sizeOf41 rfl (B111.at.sub 0 8)⟩ ?_)))
  exact ⟨by rw [evOf, if_neg g37, if_neg g49, if_neg g57, if_pos g69]; rfl, (((E28.next u100 (fun i hi h => by omega)).next u104 (fun i hi h => by omega)).next u110 (fun i hi h => by omega))⟩
 refine c_region (t_move rfl rfl rfl (t_field Try.underlying41 rfl Try.sizeOf3 (3) rfl rfl rfl rfl (t_st (vs := [.int .i64 (x.c % 4)]) Try.sizeOf3 rfl rfl rfl B31 rfl rfl rfl rfl (fun w113 sw113 B115 u114 => ?_))))
 have zu114 := u114.size
 have B115 : Blk w113 bk14 41 [.int .i64 (1 + (x.a % 5)), .int .i64 i, .int .i64 0, .int .i64 (x.c % 4), .int .i64 0, .int .i64 0, .int .i64 0, .int .i64 0] := B115
 refine t_nil' (hK29 _ _ (c_seq fun K117 hK117 => (c_region (t_loadN (vs := [.int .i64 (1 + (x.a % 5)), .int .i64 i, .int .i64 0, .int .i64 (x.c % 4), .int .i64 0, .int .i64 0, .int .i64 0, .int .i64 0]) Try.isAgg41 Try.sizeOf41 rfl rfl rfl (B115.at.sub 0 8) rfl ?_))))
 have B118 := ((((B9.kx u17).keep u20 (by omega)).kx u27).keep u114 (by omega))
 refine t_st (vs := [.int .i64 (1 + (x.a % 5)), .int .i64 i, .int .i64 0, .int .i64 (x.c % 4), .int .i64 0, .int .i64 0, .int .i64 0, .int .i64 0]) Try.sizeOf41 rfl rfl rfl B118 rfl rfl rfl rfl (fun w119 sw119 B121 u120 => ?_)
 have zu120 := u120.size
 have B121 : Blk w119 bk7 41 [.int .i64 (1 + (x.a % 5)), .int .i64 i, .int .i64 0, .int .i64 (x.c % 4), .int .i64 0, .int .i64 0, .int .i64 0, .int .i64 0] := B121
 refine t_nil' (hK117 _ _ (c_ret (f_ret1 (v := .agg #[.int .i64 (1 + (x.a % 5)), .int .i64 i, .int .i64 0, .int .i64 (x.c % 4), .int .i64 0, .int .i64 0, .int .i64 0, .int .i64 0]) Try.results65 ⟨_, _, rfl, run_loadVarN (vs := [.int .i64 (1 + (x.a % 5)), .int .i64 i, .int .i64 0, .int .i64 (x.c % 4), .int .i64 0, .int .i64 0, .int .i64 0, .int .i64 0]) Try.isAgg41 Try.sizeOf41 rfl (B121.at.sub 0 8)⟩ ?_)))
 exact ⟨by rw [evOf, if_neg g37, if_neg g49, if_neg g57, if_neg g69]; rfl, ((E28.next u114 (fun i hi h => by omega)).next u120 (fun i hi h => by omega))⟩

end Go.Proofs.Ytblkphbblkncdaa
