/-
  The statements about crews: their small functions. Conditions: none.
-/
import Derived.Test.YtagmodjadmecdaaPA15
import Derived.Test.YtagmodjadmecdaaPA16
namespace Go.Proofs.Ytagmodjadmecdaa
open Go Go.RowKit

/-- Five, and four, small numbers. -/
structure U5 where
  a : Int
  b : Int
  c : Int
  d : Int
  e : Int
instance : Inhabited U5 := ⟨⟨default, default, default, default, default⟩⟩
structure U4 where
  a : Int
  b : Int
  c : Int
  d : Int
instance : Inhabited U4 := ⟨⟨default, default, default, default⟩⟩
def okU5 (u : U5) : Prop := (0 ≤ u.a ∧ u.a ≤ 255) ∧ (0 ≤ u.b ∧ u.b ≤ 255) ∧ (0 ≤ u.c ∧ u.c ≤ 255) ∧ (0 ≤ u.d ∧ u.d ≤ 255) ∧ (0 ≤ u.e ∧ u.e ≤ 255)
/-- Rules and duties out of small numbers. -/
def smR (u : U5) : Rul := ⟨1 + u.a % 80, 1 + u.b, 1 + u.c, 1 + 2 * u.d, 1 + 2 * u.e⟩
theorem smR_ok {u : U5} (h : okU5 u) : okRul (smR u) = true := by
  unfold okU5 at h
  unfold okRul; rw [decide_eq_true_eq]; simp only [smR]
  omega
theorem own11 : Own Try.prog 11 := ⟨Try.f11, Try.func11, by kernel_rfl, by kernel_rfl⟩
theorem own8 : Own Try.prog 8 := ⟨Try.f8, Try.func8, by kernel_rfl, by kernel_rfl⟩
theorem duties_c (l : List Dty) (al : Option Addr) (bl ol cl : Nat) (w0 : World) (hl : Sl encDty 4 w0 al bl ol l) (hll : l.length ≤ 1000000) (hpos : 0 < w0.heap.size) :
    CallsV Try.prog 11 [.slice al l.length cl] w0 (fun v w' => (∃ ao g cp, v = .slice ao (List.length l) cp ∧ Acc encDty 4 40 w0.heap.size w' ao g cp l) ∧ Ext w0 w') := by
 refine f_enter (N := 6) Try.func11 rfl rfl rfl (c_seq fun K1 hK1 => (c_region (t_assign rfl rfl rfl (t_nil' (hK1 _ _ (c_seq fun K2 hK2 => (c_region (t_bslice (ps := []) (cs := []) (e := 40) rfl rfl ⟨rfl, rfl⟩ (fun w => by kernel_rfl) (fun bk3 w4 ebk3 sbk3 B5 u6 => ?_)))))))))
 have zu6 := u6.size
 have E7 := (Upd.refl (fun _ => False) w0).nx u6
 refine t_move rfl rfl rfl (t_copy (enc := encDty) (z := .agg #[.int .i64 0, .int .i64 0, .int .i64 0, .int .i64 0]) (bytes := 32) (k := 4) (ys := l) Try.underlying30 (by kernel_rfl) rfl (by decide) (fun _ => rfl) (by intro x; simp [encDty, Value.oneCell']) rfl rfl rfl rfl B5 (hl.keep E7 (fun _ h => h)) (by omega) (by decide) (fun ao8 gb9 cp10 w11 A12 u13 gegb9 => ?_))
 have zu13 := u13.size
 have lt_gb9 := A12.lt
 refine t_assign rfl rfl rfl (t_nil' (hK2 _ _ (c_ret (f_ret1 (v := .slice ao8 l.length cp10) Try.results11 rfl ?_))))
 obtain ⟨g9, ha9⟩ := Acc.lower (base' := w0.heap.size) A12 (by omega) hpos
 exact ⟨⟨ao8, g9, cp10, rfl, ha9⟩, (E7.next u13 (fun i hi h => by omega))⟩

theorem small_c (u : U5) (ao : Option Addr) (n c : Nat) (w0 : World) (hu : okU5 u) :
    CallsV Try.prog 8 [.agg #[.int .u8 u.a, .int .u8 u.b, .int .u8 u.c, .int .u8 u.d, .int .u8 u.e, .slice ao n c]] w0 (fun v w' => v = .agg #[.int .i64 (smR u).rest, .int .i64 (smR u).span, .int .i64 (smR u).work, .int .i64 (smR u).week, .int .i64 (smR u).ww] ∧ Ext w0 w') := by
 unfold okU5 at hu
 refine f_enter (N := 32) Try.func8 rfl rfl rfl (c_seq fun K1 hK1 => (c_region (t_box (cs := [.int .u8 u.a, .int .u8 u.b, .int .u8 u.c, .int .u8 u.d, .int .u8 u.e, .slice ao n c]) rfl rfl rfl rfl (fun bk2 w3 ebk2 sbk2 B4 u5 => ?_))))
 have zu5 := u5.size
 refine t_alloc (cs := [.int .i64 0, .int .i64 0, .int .i64 0, .int .i64 0, .int .i64 0]) Try.zeroValue28 rfl rfl rfl (fun bk7 w8 ebk7 sbk7 B9 u10 => ?_)
 have zu10 := u10.size
 refine t_nil' (hK1 _ _ (c_seq fun K12 hK12 => (c_region (t_field Try.underlying25 rfl Try.sizeOf22 (0) rfl rfl rfl rfl (t_indexArr (j := 0) (0) Try.underlying22 Try.sizeOf5 rfl rfl rfl rfl rfl (by decide) rfl ?_)))))
 have B13 := (B4.kx u10)
 refine t_load Try.isAgg5 rfl rfl rfl (B13.get rfl) (t_conv Try.underlying5 Try.underlying3 rfl rfl rfl (IntWalk.i64_in _ (by omega)) (t_rem rfl rfl rfl rfl (by omega) (by omega) (t_ari rfl rfl rfl rfl rfl (by omega) (t_field Try.underlying25 rfl Try.sizeOf22 (0) rfl rfl rfl rfl (t_indexArr (j := 1) (1) Try.underlying22 Try.sizeOf5 rfl rfl rfl rfl rfl (by decide) rfl (t_load Try.isAgg5 rfl rfl rfl (B13.get rfl) (t_conv Try.underlying5 Try.underlying3 rfl rfl rfl (IntWalk.i64_in _ (by omega)) (t_ari rfl rfl rfl rfl rfl (by omega) (t_field Try.underlying25 rfl Try.sizeOf22 (0) rfl rfl rfl rfl (t_indexArr (j := 2) (2) Try.underlying22 Try.sizeOf5 rfl rfl rfl rfl rfl (by decide) rfl (t_load Try.isAgg5 rfl rfl rfl (B13.get rfl) (t_conv Try.underlying5 Try.underlying3 rfl rfl rfl (IntWalk.i64_in _ (by omega)) (t_ari rfl rfl rfl rfl rfl (by omega) (t_field Try.underlying25 rfl Try.sizeOf22 (0) rfl rfl rfl rfl (t_indexArr (j := 3) (3) Try.underlying22 Try.sizeOf5 rfl rfl rfl rfl rfl (by decide) rfl (t_load Try.isAgg5 rfl rfl rfl (B13.get rfl) (t_conv Try.underlying5 Try.underlying3 rfl rfl rfl (IntWalk.i64_in _ (by omega)) (t_ari rfl rfl rfl rfl rfl (by omega) (t_ari rfl rfl rfl rfl rfl (by omega) (t_field Try.underlying25 rfl Try.sizeOf22 (0) rfl rfl rfl rfl (t_indexArr (j := 4) (4) Try.underlying22 Try.sizeOf5 rfl rfl rfl rfl rfl (by decide) rfl (t_load Try.isAgg5 rfl rfl rfl (B13.get rfl) (t_conv Try.underlying5 Try.underlying3 rfl rfl rfl (IntWalk.i64_in _ (by omega)) ?_)))))))))))))))))))))))
 refine t_ari rfl rfl rfl rfl rfl (by omega) (t_ari rfl rfl rfl rfl rfl (by omega) (t_build (ps := [(0, .int .i64 (1 + (u.a % 80))), (1, .int .i64 (1 + u.b)), (2, .int .i64 (1 + u.c)), (3, .int .i64 (1 + (2 * u.d))), (4, .int .i64 (1 + (2 * u.e)))]) (v := .agg #[.int .i64 (1 + (u.a % 80)), .int .i64 (1 + u.b), .int .i64 (1 + u.c), .int .i64 (1 + (2 * u.d)), .int .i64 (1 + (2 * u.e))]) rfl rfl ⟨rfl, rfl⟩ (fun w => by kernel_rfl) (t_st (vs := [.int .i64 (1 + (u.a % 80)), .int .i64 (1 + u.b), .int .i64 (1 + u.c), .int .i64 (1 + (2 * u.d)), .int .i64 (1 + (2 * u.e))]) Try.sizeOf28 rfl rfl rfl B9 rfl rfl rfl rfl (fun w14 sw14 B16 u15 => ?_))))
 have zu15 := u15.size
 have B16 : Blk w14 bk7 28 [.int .i64 (1 + (u.a % 80)), .int .i64 (1 + u.b), .int .i64 (1 + u.c), .int .i64 (1 + (2 * u.d)), .int .i64 (1 + (2 * u.e))] := B16
 refine t_nil' (hK12 _ _ (c_ret (f_ret1 (v := .agg #[.int .i64 (1 + (u.a % 80)), .int .i64 (1 + u.b), .int .i64 (1 + u.c), .int .i64 (1 + (2 * u.d)), .int .i64 (1 + (2 * u.e))]) Try.results8 ⟨_, _, rfl, run_loadVarN (vs := [.int .i64 (1 + (u.a % 80)), .int .i64 (1 + u.b), .int .i64 (1 + u.c), .int .i64 (1 + (2 * u.d)), .int .i64 (1 + (2 * u.e))]) Try.isAgg28 Try.sizeOf28 rfl (B16.at.sub 0 5)⟩ ?_)))
 exact ⟨rfl, ((((Upd.refl (fun _ => False) w0).nx u5).nx u10).next u15 (fun i hi h => by omega))⟩

end Go.Proofs.Ytagmodjadmecdaa
