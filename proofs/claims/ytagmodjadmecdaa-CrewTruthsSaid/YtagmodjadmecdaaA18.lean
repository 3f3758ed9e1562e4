/-
  The statements about crews: their small functions. Conditions: none.
-/
import Derived.Test.YtagmodjadmecdaaA15
import Derived.Test.YtagmodjadmecdaaA16
namespace Go.Proofs.Ytagmodjadmecdaa
open Go Go.RowKit

/-- Five, and four, small numbers. -/
structure U5 where
  a : Int
  b : Int
  c : Int
  d : Int
  e : Int
instance : Inhabited U5 := ⟨⟨default, default, default, default, default⟩⟩
structure U4 where
  a : Int
  b : Int
  c : Int
  d : Int
instance : Inhabited U4 := ⟨⟨default, default, default, default⟩⟩
def okU5 (u : U5) : Prop := (0 ≤ u.a ∧ u.a ≤ 255) ∧ (0 ≤ u.b ∧ u.b ≤ 255) ∧ (0 ≤ u.c ∧ u.c ≤ 255) ∧ (0 ≤ u.d ∧ u.d ≤ 255) ∧ (0 ≤ u.e ∧ u.e ≤ 255)
def okU4 (u : U4) : Prop := (0 ≤ u.a ∧ u.a ≤ 255) ∧ (0 ≤ u.b ∧ u.b ≤ 255) ∧ (0 ≤ u.c ∧ u.c ≤ 255) ∧ (0 ≤ u.d ∧ u.d ≤ 255)
def encU4 (x : U4) : List Value := [.int .u8 x.a, .int .u8 x.b, .int .u8 x.c, .int .u8 x.d]
/-- Rules and duties out of small numbers. -/
def smR (u : U5) : Rul := ⟨1 + u.a % 80, 1 + u.b, 1 + u.c, 1 + 2 * u.d, 1 + 2 * u.e⟩
def dOf (x : U4) : Dty := ⟨2 * x.a, 2 * x.a + x.b % 30, (2 * x.a + x.b % 30) + x.c % 40, ((2 * x.a + x.b % 30) + x.c % 40) + x.d % 30⟩
theorem smR_ok {u : U5} (h : okU5 u) : okRul (smR u) = true := by
  unfold okU5 at h
  unfold okRul; rw [decide_eq_true_eq]; simp only [smR]
  omega
theorem dOf_rng {x : U4} (h : okU4 x) : (0 ≤ (dOf x).bl ∧ (dOf x).bl ≤ 510) ∧ ((dOf x).bl ≤ (dOf x).bh ∧ (dOf x).bh ≤ 539) ∧ ((dOf x).bh ≤ (dOf x).el ∧ (dOf x).el ≤ 578) ∧ ((dOf x).el ≤ (dOf x).eh ∧ (dOf x).eh ≤ 607) := by
  unfold okU4 at h
  simp only [dOf]
  omega
theorem dOf_ok {x : U4} (h : okU4 x) : okDty (dOf x) = true := by
  have := dOf_rng h
  simp only [okDty, decide_eq_true_eq]; omega
def dsOf (xs : List U4) (m : Nat) : List Dty := (xs.take m).map dOf
theorem dsOf_len (xs : List U4) (m : Nat) : (dsOf xs m).length ≤ m := by unfold dsOf; rw [List.length_map, List.length_take]; omega
theorem dsOf_mem {xs : List U4} {m : Nat} (h : ∀ x ∈ xs, okU4 x) {d : Dty} (hd : d ∈ dsOf xs m) : ∃ x, okU4 x ∧ d = dOf x := by
  obtain ⟨x, hx, rfl⟩ := List.mem_map.1 hd; exact ⟨x, h x (List.mem_of_mem_take hx), rfl⟩
theorem dsOf_ok {xs : List U4} {m : Nat} (h : ∀ x ∈ xs, okU4 x) : ∀ d ∈ dsOf xs m, okDty d = true := fun d hd => by
  obtain ⟨x, hx, rfl⟩ := dsOf_mem h hd; exact dOf_ok hx
theorem chk_of {r : Rul} {l : List Dty} (hr : okRul r = true) (hl : l.length ≤ 20) (h : ∀ d ∈ l, okDty d = true) : chkRD r l = 0 := by
  unfold chkRD chkR chkD
  rw [if_pos hr, if_neg (by decide), if_neg (by omega), if_neg]
  intro hc
  obtain ⟨d, hd, hq⟩ := List.any_eq_true.1 hc
  rw [h d hd] at hq; cases hq
theorem ok_snoc {l : List Dty} {d : Dty} (h : ∀ d ∈ l, okDty d = true) (hd : okDty d = true) : ∀ x ∈ l ++ [d], okDty x = true := fun x hx => by
  rcases List.mem_append.1 hx with hx | hx
  · exact h x hx
  · rw [List.mem_singleton.1 hx]; exact hd
theorem lng_snoc (l : List Dty) (d : Dty) : srtS ((l ++ [d]).map lngS) = insS (lngS d) (srtS (l.map lngS)) := by rw [ins_srtS, List.map_append]; rfl

theorem own11 : Own Try.prog 11 := ⟨Try.f11, Try.func11, by kernel_rfl, by kernel_rfl⟩
theorem own8 : Own Try.prog 8 := ⟨Try.f8, Try.func8, by kernel_rfl, by kernel_rfl⟩
theorem own9 : Own Try.prog 9 := ⟨Try.f9, Try.func9, by kernel_rfl, by kernel_rfl⟩

theorem duties_c (l : List Dty) (al : Option Addr) (bl ol cl : Nat) (w0 : World) (hl : Sl encDty 4 w0 al bl ol l) (hll : l.length ≤ 1000000) (hpos : 0 < w0.heap.size) :
    CallsV Try.prog 11 [.slice al l.length cl] w0 (fun v w' => (∃ ao g cp, v = .slice ao (List.length l) cp ∧ Acc encDty 4 40 w0.heap.size w' ao g cp l) ∧ Ext w0 w') := by
 refine f_enter (N := 6) Try.func11 rfl rfl rfl (c_seq fun K1 hK1 => (c_region (t_assign rfl rfl rfl (t_nil' (hK1 _ _ (c_seq fun K2 hK2 => (c_region (t_bslice (ps := []) (cs := []) (e := 40) rfl rfl ⟨rfl, rfl⟩ (fun w => by kernel_rfl) (fun bk3 w4 ebk3 sbk3 B5 u6 => ?_)))))))))
 have zu6 := u6.size
 have E7 := (Upd.refl (fun _ => False) w0).nx u6
 refine t_move rfl rfl rfl (t_copy (enc := encDty) (z := .agg #[.int .i64 0, .int .i64 0, .int .i64 0, .int .i64 0]) (bytes := 32) (k := 4) (ys := l) Try.underlying30 (by kernel_rfl) rfl (by decide) (fun _ => rfl) (by intro x; simp [encDty, Value.oneCell']) rfl rfl rfl rfl B5 (hl.keep E7 (fun _ h => h)) (by omega) (by decide) (fun ao8 gb9 cp10 w11 A12 u13 gegb9 => ?_))
 have zu13 := u13.size
 have lt_gb9 := A12.lt
 refine t_assign rfl rfl rfl (t_nil' (hK2 _ _ (c_ret (f_ret1 (v := .slice ao8 l.length cp10) Try.results11 rfl ?_))))
 obtain ⟨g9, ha9⟩ := Acc.lower (base' := w0.heap.size) A12 (by omega) hpos
 exact ⟨⟨ao8, g9, cp10, rfl, ha9⟩, (E7.next u13 (fun i hi h => by omega))⟩

theorem small_c (u : U5) (ao : Option Addr) (n c : Nat) (w0 : World) (hu : okU5 u) :
    CallsV Try.prog 8 [.agg #[.int .u8 u.a, .int .u8 u.b, .int .u8 u.c, .int .u8 u.d, .int .u8 u.e, .slice ao n c]] w0 (fun v w' => v = .agg #[.int .i64 (smR u).rest, .int .i64 (smR u).span, .int .i64 (smR u).work, .int .i64 (smR u).week, .int .i64 (smR u).ww] ∧ Ext w0 w') := by
 unfold okU5 at hu
 refine f_enter (N := 32) Try.func8 rfl rfl rfl (c_seq fun K1 hK1 => (c_region (t_box (cs := [.int .u8 u.a, .int .u8 u.b, .int .u8 u.c, .int .u8 u.d, .int .u8 u.e, .slice ao n c]) rfl rfl rfl rfl (fun bk2 w3 ebk2 sbk2 B4 u5 => ?_))))
 have zu5 := u5.size
 refine t_alloc (cs := [.int .i64 0, .int .i64 0, .int .i64 0, .int .i64 0, .int .i64 0]) Try.zeroValue28 rfl rfl rfl (fun bk7 w8 ebk7 sbk7 B9 u10 => ?_)
 have zu10 := u10.size
 refine t_nil' (hK1 _ _ (c_seq fun K12 hK12 => (c_region (t_field Try.underlying25 rfl Try.sizeOf22 (0) rfl rfl rfl rfl (t_indexArr (j := 0) (0) Try.underlying22 Try.sizeOf5 rfl rfl rfl rfl rfl (by decide) rfl ?_)))))
 have B13 := (B4.kx u10)
 refine t_load Try.isAgg5 rfl rfl rfl (B13.get rfl) (t_conv Try.underlying5 Try.underlying3 rfl rfl rfl (IntWalk.i64_in _ (by omega)) (t_rem rfl rfl rfl rfl (by omega) (by omega) (t_ari rfl rfl rfl rfl rfl (by omega) (t_field Try.underlying25 rfl Try.sizeOf22 (0) rfl rfl rfl rfl (t_indexArr (j := 1) (1) Try.underlying22 Try.sizeOf5 rfl rfl rfl rfl rfl (by decide) rfl (t_load Try.isAgg5 rfl rfl rfl (B13.get rfl) (t_conv Try.underlying5 Try.underlying3 rfl rfl rfl (IntWalk.i64_in _ (by omega)) (t_ari rfl rfl rfl rfl rfl (by omega) (t_field Try.underlying25 rfl Try.sizeOf22 (0) rfl rfl rfl rfl (t_indexArr (j := 2) (2) Try.underlying22 Try.sizeOf5 rfl rfl rfl rfl rfl (by decide) rfl (t_load Try.isAgg5 rfl rfl rfl (B13.get rfl) (t_conv Try.underlying5 Try.underlying3 rfl rfl rfl (IntWalk.i64_in _ (by omega)) (t_ari rfl rfl rfl rfl rfl (by omega) (t_field Try.underlying25 rfl Try.sizeOf22 (0) rfl rfl rfl rfl (t_indexArr (j := 3) (3) Try.underlying22 Try.sizeOf5 rfl rfl rfl rfl rfl (by decide) rfl (t_load Try.isAgg5 rfl rfl rfl (B13.get rfl) (t_conv Try.underlying5 Try.underlying3 rfl rfl rfl (IntWalk.i64_in _ (by omega)) (t_ari rfl rfl rfl rfl rfl (by omega) (t_ari rfl rfl rfl rfl rfl (by omega) (t_field Try.underlying25 rfl Try.sizeOf22 (0) rfl rfl rfl rfl (t_indexArr (j := 4) (4) Try.underlying22 Try.sizeOf5 rfl rfl rfl rfl rfl (by decide) rfl (t_load Try.isAgg5 rfl rfl rfl (B13.get rfl) (t_conv Try.underlying5 Try.underlying3 rfl rfl rfl (IntWalk.i64_in _ (by omega)) ?_)))))))))))))))))))))))
 refine t_ari rfl rfl rfl rfl rfl (by omega) (t_ari rfl rfl rfl rfl rfl (by omega) (t_build (ps := [(0, .int .i64 (1 + (u.a % 80))), (1, .int .i64 (1 + u.b)), (2, .int .i64 (1 + u.c)), (3, .int .i64 (1 + (2 * u.d))), (4, .int .i64 (1 + (2 * u.e)))]) (v := .agg #[.int .i64 (1 + (u.a % 80)), .int .i64 (1 + u.b), .int .i64 (1 + u.c), .int .i64 (1 + (2 * u.d)), .int .i64 (1 + (2 * u.e))]) rfl rfl ⟨rfl, rfl⟩ (fun w => by kernel_rfl) (t_st (vs := [.int .i64 (1 + (u.a % 80)), .int .i64 (1 + u.b), .int .i64 (1 + u.c), .int .i64 (1 + (2 * u.d)), .int .i64 (1 + (2 * u.e))]) Try.sizeOf28 rfl rfl rfl B9 rfl rfl rfl rfl (fun w14 sw14 B16 u15 => ?_))))
 have zu15 := u15.size
 have B16 : Blk w14 bk7 28 [.int .i64 (1 + (u.a % 80)), .int .i64 (1 + u.b), .int .i64 (1 + u.c), .int .i64 (1 + (2 * u.d)), .int .i64 (1 + (2 * u.e))] := B16
 refine t_nil' (hK12 _ _ (c_ret (f_ret1 (v := .agg #[.int .i64 (1 + (u.a % 80)), .int .i64 (1 + u.b), .int .i64 (1 + u.c), .int .i64 (1 + (2 * u.d)), .int .i64 (1 + (2 * u.e))]) Try.results8 ⟨_, _, rfl, run_loadVarN (vs := [.int .i64 (1 + (u.a % 80)), .int .i64 (1 + u.b), .int .i64 (1 + u.c), .int .i64 (1 + (2 * u.d)), .int .i64 (1 + (2 * u.e))]) Try.isAgg28 Try.sizeOf28 rfl (B16.at.sub 0 5)⟩ ?_)))
 exact ⟨rfl, ((((Upd.refl (fun _ => False) w0).nx u5).nx u10).next u15 (fun i hi h => by omega))⟩

theorem smallD_c (u : U5) (xs : List U4) (ao : Option Addr) (b o cap m : Nat) (w0 : World) (hx : Sl encU4 4 w0 ao b o xs) (hxl : xs.length ≤ 9223372036854775807) (hxs : ∀ x ∈ xs, okU4 x) (hm : m ≤ 1000) (hpos : 0 < w0.heap.size) :
    CallsV Try.prog 9 [.agg #[.int .u8 u.a, .int .u8 u.b, .int .u8 u.c, .int .u8 u.d, .int .u8 u.e, .slice ao xs.length cap], .int .i64 (m : Int)] w0 (fun v w' => (∃ ao g cp, v = .slice ao (List.length (dsOf xs m)) cp ∧ Acc encDty 4 40 w0.heap.size w' ao g cp (dsOf xs m)) ∧ Ext w0 w') := by
 refine f_enter (N := 64) Try.func9 rfl rfl rfl (c_seq fun K1 hK1 => (c_region (t_box (cs := [.int .u8 u.a, .int .u8 u.b, .int .u8 u.c, .int .u8 u.d, .int .u8 u.e, .slice ao xs.length cap]) rfl rfl rfl rfl (fun bk2 w3 ebk2 sbk2 B4 u5 => ?_))))
 have zu5 := u5.size
 refine t_assign rfl rfl rfl (t_nil' (hK1 _ _ (c_seq fun K7 hK7 => (c_region (t_bslice (ps := []) (cs := []) (e := 40) rfl rfl ⟨rfl, rfl⟩ (fun w => by kernel_rfl) (fun bk8 w9 ebk8 sbk8 B10 u11 => ?_))))))
 have zu11 := u11.size
 refine t_assign rfl rfl rfl (t_nil' (hK7 _ _ (c_seq fun K13 hK13 => (c_seq fun K14 hK14 => (c_region (t_assign rfl rfl rfl (t_nil' (hK14 _ _ (c_block (c_loop (γ := Nat × Option Addr × Nat × Nat × List Dty) (fun gg => [(1, .int .i64 (m : Int)), (2, .pointer (some ⟨bk2, 0, none⟩)), (5, .slice gg.2.1 gg.2.2.2.2.length gg.2.2.2.1), (6, .int .i64 (gg.1 : Int))]) (fun gg w => Upd (fun i => bk8 ≤ i) w9 w ∧ (gg.1 ≤ xs.length ∧ gg.1 ≤ m) ∧ (Acc encDty 4 40 bk8 w gg.2.1 gg.2.2.1 gg.2.2.2.1 gg.2.2.2.2) ∧ (gg.2.2.2.2 = dsOf xs gg.1)) (fun gg => m - gg.1) (0, some ⟨bk8, 0, none⟩, bk8, 0, []) ⟨rfl, rfl, rfl, rfl, trivial⟩ ⟨Upd.refl _ _, (by omega), (Acc.ofRaw (cs := []) B10 (Nat.le_refl _) (Nat.le_refl _) (Nat.zero_le _) (by rfl) (by rfl)), rfl⟩ ?_))))))))))
 intro gg w16 hW K15 hK15
 obtain ⟨k, al, gl, cl, l⟩ := gg
 change WC _ _ _ _ _ _ [(1, .int .i64 (m : Int)), (2, .pointer (some ⟨bk2, 0, none⟩)), (5, .slice al l.length cl), (6, .int .i64 (k : Int))] _
 change Upd (fun i => bk8 ≤ i) w9 w16 ∧ (k ≤ xs.length ∧ k ≤ m) ∧ (Acc encDty 4 40 bk8 w16 al gl cl l) ∧ (l = dsOf xs k) at hW
 obtain ⟨u17, I18, I19, I20⟩ := hW
 have zu17 := u17.size
 have E21 := (((Upd.refl (fun _ => False) w0).nx u5).nx u11).next u17 (fun i hi (h : bk8 ≤ i) => show False by first | omega | assumption)
 have hk := I18; clear I18
 have hout := I19; clear I19
 have hle := I20; clear I20
 have lt_gl := hout.lt
 have hll : l.length = k := by rw [hle]; unfold dsOf; rw [List.length_map, List.length_take]; omega
 refine c_seq fun K22 hK22 => (c_seq fun K23 hK23 => (c_region (t_move rfl rfl rfl (t_field Try.underlying25 rfl Try.sizeOf23 (5) rfl rfl rfl rfl ?_))))
 have B24 := ((B4.kx u11).keep u17 (show ¬ (bk8 ≤ bk2) by first | omega | assumption))
 refine t_load Try.isAgg23 rfl rfl rfl (B24.get rfl) (t_len Try.underlying23 rfl rfl rfl rfl (t_cmp rfl rfl rfl rfl rfl (t_move rfl rfl rfl (t_splitp 16 rfl (fun g16 => ?_) (fun g16 => ?_)))))
 ·
  refine t_move rfl rfl rfl (t_move rfl rfl rfl (t_cmp rfl rfl rfl rfl rfl (t_pick_t rfl rfl rfl rfl (t_nil' (hK23 _ _ (c_condp rfl (fun g20 => ?_) (fun g20 => ?_)))))))
  ·
   have hx9 := hxs _ (nth_mem (show k < xs.length by omega))
   unfold okU4 at hx9
   refine c_skip (hK22 _ _ (c_seq fun K25 hK25 => (c_block (c_seq fun K26 hK26 => (c_region (t_field Try.underlying25 rfl Try.sizeOf23 (5) rfl rfl rfl rfl (t_load Try.isAgg23 rfl rfl rfl (B24.get rfl) (t_move rfl rfl rfl ?_))))))))
   have i27 : k < xs.length := (by omega)
   refine t_index (j := k) Try.underlying23 Try.sizeOf86 rfl rfl rfl rfl ((hx.keep E21 (fun _ h => h)).addr (by omega)) rfl i27 (t_loadN (vs := [.int .u8 ((nth xs k).a), .int .u8 ((nth xs k).b), .int .u8 ((nth xs k).c), .int .u8 ((nth xs k).d)]) Try.isAgg86 Try.sizeOf86 rfl rfl rfl (((hx.keep E21 (fun _ h => h)).at_ k (by omega)).sub 0 4) rfl (t_alloc (cs := [.int .u8 0, .int .u8 0, .int .u8 0, .int .u8 0]) Try.zeroValue86 rfl rfl rfl (fun bk28 w29 ebk28 sbk28 B30 u31 => ?_)))
   have zu31 := u31.size
   refine t_st (vs := [.int .u8 ((nth xs k).a), .int .u8 ((nth xs k).b), .int .u8 ((nth xs k).c), .int .u8 ((nth xs k).d)]) Try.sizeOf86 rfl rfl rfl B30 rfl rfl rfl rfl (fun w33 sw33 B35 u34 => ?_)
   have zu34 := u34.size
   have B35 : Blk w33 bk28 86 [.int .u8 ((nth xs k).a), .int .u8 ((nth xs k).b), .int .u8 ((nth xs k).c), .int .u8 ((nth xs k).d)] := B35
   refine t_nil' (hK26 _ _ (c_seq fun K37 hK37 => (c_region (t_indexArr (j := 0) (0) Try.underlying86 Try.sizeOf5 rfl rfl rfl rfl rfl (by decide) rfl (t_load Try.isAgg5 rfl rfl rfl (B35.get rfl) (t_conv Try.underlying5 Try.underlying3 rfl rfl rfl (IntWalk.i64_in _ (by omega)) (t_ari rfl rfl rfl rfl rfl (by omega) (t_assign rfl rfl rfl (t_nil' (hK37 _ _ (c_seq fun K38 hK38 => (c_region (t_move rfl rfl rfl (t_indexArr (j := 1) (1) Try.underlying86 Try.sizeOf5 rfl rfl rfl rfl rfl (by decide) rfl (t_load Try.isAgg5 rfl rfl rfl (B35.get rfl) (t_conv Try.underlying5 Try.underlying3 rfl rfl rfl (IntWalk.i64_in _ (by omega)) (t_rem rfl rfl rfl rfl (by omega) (by omega) (t_ari rfl rfl rfl rfl rfl (by omega) (t_assign rfl rfl rfl (t_nil' (hK38 _ _ (c_region (t_move rfl rfl rfl ?_)))))))))))))))))))))))
   refine t_move rfl rfl rfl (t_move rfl rfl rfl (t_build (ps := [(0, .int .i64 (2 * ((nth xs k).a))), (1, .int .i64 ((2 * ((nth xs k).a)) + (((nth xs k).b) % 30)))]) (v := .agg #[.int .i64 (2 * ((nth xs k).a)), .int .i64 ((2 * ((nth xs k).a)) + (((nth xs k).b) % 30))]) rfl rfl ⟨rfl, rfl⟩ (fun w => by kernel_rfl) (t_move rfl rfl rfl (t_indexArr (j := 2) (2) Try.underlying86 Try.sizeOf5 rfl rfl rfl rfl rfl (by decide) rfl (t_load Try.isAgg5 rfl rfl rfl (B35.get rfl) (t_conv Try.underlying5 Try.underlying3 rfl rfl rfl (IntWalk.i64_in _ (by omega)) (t_rem rfl rfl rfl rfl (by omega) (by omega) (t_ari rfl rfl rfl rfl rfl (by omega) (t_move rfl rfl rfl (t_indexArr (j := 2) (2) Try.underlying86 Try.sizeOf5 rfl rfl rfl rfl rfl (by decide) rfl (t_load Try.isAgg5 rfl rfl rfl (B35.get rfl) (t_conv Try.underlying5 Try.underlying3 rfl rfl rfl (IntWalk.i64_in _ (by omega)) (t_rem rfl rfl rfl rfl (by omega) (by omega) (t_ari rfl rfl rfl rfl rfl (by omega) (t_indexArr (j := 3) (3) Try.underlying86 Try.sizeOf5 rfl rfl rfl rfl rfl (by decide) rfl (t_load Try.isAgg5 rfl rfl rfl (B35.get rfl) (t_conv Try.underlying5 Try.underlying3 rfl rfl rfl (IntWalk.i64_in _ (by omega)) (t_rem rfl rfl rfl rfl (by omega) (by omega) (t_ari rfl rfl rfl rfl rfl (by omega) (t_build (ps := [(0, .int .i64 (((2 * ((nth xs k).a)) + (((nth xs k).b) % 30)) + (((nth xs k).c) % 40))), (1, .int .i64 ((((2 * ((nth xs k).a)) + (((nth xs k).b) % 30)) + (((nth xs k).c) % 40)) + (((nth xs k).d) % 30)))]) (v := .agg #[.int .i64 (((2 * ((nth xs k).a)) + (((nth xs k).b) % 30)) + (((nth xs k).c) % 40)), .int .i64 ((((2 * ((nth xs k).a)) + (((nth xs k).b) % 30)) + (((nth xs k).c) % 40)) + (((nth xs k).d) % 30))]) rfl rfl ⟨rfl, rfl⟩ (fun w => by kernel_rfl) (t_build (ps := [(0, .agg #[.int .i64 (2 * ((nth xs k).a)), .int .i64 ((2 * ((nth xs k).a)) + (((nth xs k).b) % 30))]), (1, .agg #[.int .i64 (((2 * ((nth xs k).a)) + (((nth xs k).b) % 30)) + (((nth xs k).c) % 40)), .int .i64 ((((2 * ((nth xs k).a)) + (((nth xs k).b) % 30)) + (((nth xs k).c) % 40)) + (((nth xs k).d) % 30))])]) (v := .agg #[.int .i64 (2 * ((nth xs k).a)), .int .i64 ((2 * ((nth xs k).a)) + (((nth xs k).b) % 30)), .int .i64 (((2 * ((nth xs k).a)) + (((nth xs k).b) % 30)) + (((nth xs k).c) % 40)), .int .i64 ((((2 * ((nth xs k).a)) + (((nth xs k).b) % 30)) + (((nth xs k).c) % 40)) + (((nth xs k).d) % 30))]) rfl rfl ⟨rfl, rfl⟩ (fun w => by kernel_rfl) (t_bslice (ps := [(0, .agg #[.int .i64 (2 * ((nth xs k).a)), .int .i64 ((2 * ((nth xs k).a)) + (((nth xs k).b) % 30)), .int .i64 (((2 * ((nth xs k).a)) + (((nth xs k).b) % 30)) + (((nth xs k).c) % 40)), .int .i64 ((((2 * ((nth xs k).a)) + (((nth xs k).b) % 30)) + (((nth xs k).c) % 40)) + (((nth xs k).d) % 30))])]) (cs := [.int .i64 (2 * ((nth xs k).a)), .int .i64 ((2 * ((nth xs k).a)) + (((nth xs k).b) % 30)), .int .i64 (((2 * ((nth xs k).a)) + (((nth xs k).b) % 30)) + (((nth xs k).c) % 40)), .int .i64 ((((2 * ((nth xs k).a)) + (((nth xs k).b) % 30)) + (((nth xs k).c) % 40)) + (((nth xs k).d) % 30))]) (e := 40) rfl rfl ⟨rfl, rfl⟩ (fun w => by kernel_rfl) (fun bk39 w40 ebk39 sbk39 B41 u42 => ?_)))))))))))))))))))))))
   have zu42 := u42.size
   have D44 := (((hout.keep u31 (fun _ h => h)).keep u34 (fun hb => show ¬ (gl = bk28) by first | omega | assumption)).keep u42 (fun _ h => h))
   refine t_append (z := .agg #[.int .i64 0, .int .i64 0, .int .i64 0, .int .i64 0]) (bytes := 32) (k := 4) (base := bk8) (dOf (nth xs k)) Try.underlying30 (by kernel_rfl) rfl (by decide) (fun _ => rfl) (by intro x; simp [encDty, Value.oneCell']) rfl rfl rfl rfl D44 B41 (by omega) (by omega) (by decide) (fun ao45 gb46 cp47 w48 A49 u50 gegb46 lngb46 => ?_)
   have zu50 := u50.size
   have lt_gb46 := A49.lt
   refine t_assign rfl rfl rfl (t_nil' (hK25 _ _ (c_region (t_move rfl rfl rfl (t_ari rfl rfl rfl rfl rfl (by omega) (t_assign rfl rfl rfl (t_nil' ?_)))))))
   exact hK15 (k + 1, ao45, gb46, cp47, (l ++ [(dOf (nth xs k))])) _ _ (by show m - (k + 1) < m - k; omega) ⟨rfl, rfl, rfl, rfl, trivial⟩ ⟨((((u17.next u31 (fun _ _ h => h.elim)).next u34 (fun i hi (h : i = bk28) => show bk8 ≤ i by first | omega | assumption)).next u42 (fun _ _ h => h.elim)).next u50 (fun i hi (h : (i = gl ∧ bk8 ≤ i)) => show bk8 ≤ i by first | omega | assumption)), (by omega), A49, (by rw [hle]; unfold dsOf; rw [take_nth (by omega), List.map_append]; rfl)⟩
  refine c_exit (hK13 _ _ (c_seq fun K52 hK52 => (c_region (t_move rfl rfl rfl (t_assign rfl rfl rfl (t_nil' (hK52 _ _ (c_ret (f_ret1 (v := .slice al l.length cl) Try.results9 rfl ?_)))))))))
  have hm9 : l = dsOf xs m := by
    rw [hle]; unfold dsOf
    rcases Nat.lt_or_ge k m with h | h
    · rw [List.take_of_length_le (show xs.length ≤ k by omega), List.take_of_length_le (show xs.length ≤ m by omega)]
    · rw [show k = m by omega]
  subst hm9
  obtain ⟨g9, ha9⟩ := Acc.lower (base' := w0.heap.size) hout (by omega) hpos
  exact ⟨⟨al, g9, cl, rfl, ha9⟩, E21⟩
 refine t_skip rfl rfl rfl (t_skip rfl rfl rfl (t_skip rfl rfl rfl (t_pick_f rfl rfl rfl rfl (t_nil' (hK23 _ _ (c_cond_f rfl (c_exit (hK13 _ _ (c_seq fun K53 hK53 => (c_region (t_move rfl rfl rfl (t_assign rfl rfl rfl (t_nil' (hK53 _ _ (c_ret (f_ret1 (v := .slice al l.length cl) Try.results9 rfl ?_))))))))))))))))
 have hm9 : l = dsOf xs m := by
   rw [hle]; unfold dsOf
   rcases Nat.lt_or_ge k m with h | h
   · rw [List.take_of_length_le (show xs.length ≤ k by omega), List.take_of_length_le (show xs.length ≤ m by omega)]
   · rw [show k = m by omega]
 subst hm9
 obtain ⟨g9, ha9⟩ := Acc.lower (base' := w0.heap.size) hout (by omega) hpos
 exact ⟨⟨al, g9, cl, rfl, ha9⟩, E21⟩

theorem smallD_v (u : U5) (xs : List U4) (ao : Option Addr) (b o cap m : Nat) (w0 : World) (hx : Sl encU4 4 w0 ao b o xs) (hxl : xs.length ≤ 9223372036854775807) (hxs : ∀ x ∈ xs, okU4 x) (hm : m ≤ 1000) (hpos : 0 < w0.heap.size) :
    CallsV Try.prog 9 [.agg #[.int .u8 u.a, .int .u8 u.b, .int .u8 u.c, .int .u8 u.d, .int .u8 u.e, .slice ao xs.length cap], .int .i64 (m : Int)] w0 (fun v w' => (∃ al g cl l, l = dsOf xs m ∧ v = .slice al (List.length l) cl ∧ Acc encDty 4 40 w0.heap.size w' al g cl l) ∧ Ext w0 w') :=
  (smallD_c u xs ao b o cap m w0 hx hxl hxs hm hpos).mono fun v w' ⟨⟨q1, q2, q3, q4, q5⟩, q6⟩ => ⟨⟨q1, q2, q3, dsOf xs m, rfl, q4, q5⟩, q6⟩


theorem Rested_v {r : Rul} {l : List Dty} (al : Option Addr) (bl ol cl : Nat) (w0 : World) (hl : Sl encDty 4 w0 al bl ol l) (hc : chkRD r l = 0) (hpos : 0 < w0.heap.size) :
    CallsV Try.prog 10 [.agg #[.int .i64 r.rest, .int .i64 r.span, .int .i64 r.work, .int .i64 r.week, .int .i64 r.ww], .slice al l.length cl] w0 (fun v w' => (∃ at_ rule, v = .tuple #[.int .i64 at_, .int .i64 rule, .bool (decide (brokP r (srtS (l.map shtS)) = 0)), .int .i64 0] ∧ RestR r l at_ rule) ∧ Ext w0 w') :=
  (Rested_c r l al bl ol cl w0 hl (by have := (chk_ok hc).2.1; omega) hpos).mono fun v w' ⟨⟨a, rule, pos, e, h1, h2⟩, u⟩ => by
    rcases h2 with ⟨h2, _⟩ | ⟨_, rfl, h3, rfl⟩
    · exact absurd hc h2
    · exact ⟨⟨a, rule, h1, h3⟩, u⟩
theorem Shifts_v {r : Rul} {l : List Dty} (al : Option Addr) (bl ol cl : Nat) (w0 : World) (hl : Sl encDty 4 w0 al bl ol l) (hc : chkRD r l = 0) (hpos : 0 < w0.heap.size) :
    CallsV Try.prog 16 [.agg #[.int .i64 r.rest, .int .i64 r.span, .int .i64 r.work, .int .i64 r.week, .int .i64 r.ww], .slice al l.length cl] w0 (fun v w' => (∃ ao g cp sh, v = .tuple #[.slice ao (List.length sh) cp, .int .i64 0] ∧ Sl encShf 3 w' ao g 0 sh ∧ sh = shiftsP r (srtS (l.map lngS))) ∧ Ext w0 w') :=
  (Shifts_c r l al bl ol cl w0 hl (by have := (chk_ok hc).2.1; omega) hpos).mono fun v w' ⟨⟨ao, g, cp, sh, e, h1, h2, h3⟩, u⟩ => by
    rcases h3 with ⟨h3, _⟩ | ⟨_, rfl, h5⟩
    · exact absurd hc h3
    · exact ⟨⟨ao, g, cp, sh, h1, h2, h5⟩, u⟩

end Go.Proofs.Ytagmodjadmecdaa
