/-
  Contracts of the reference's smallest functions. Conditions: none.
-/
import Derived.Test.YtmicjleiheoieaaA1
import Derived.Test.YtmicjleiheoieaaDraw
namespace Go.Proofs.Ytmicjleiheoieaa
open Go Go.RowKit

theorem own60 : Own Try.prog 60 := ⟨Try.f60, Try.func60, by kernel_rfl, by kernel_rfl⟩
theorem own71 : Own Try.prog 71 := ⟨Try.f71, Try.func71, by kernel_rfl, by kernel_rfl⟩

theorem rIn_c (n lo hi : Int) (w0 : World) :
    CallsV Try.prog 60 [.int .i64 n, .int .i64 lo, .int .i64 hi] w0 (fun v w' => v = .bool (decide (lo ≤ n ∧ n ≤ hi)) ∧ Ext w0 w') := by
 have E0 := Upd.refl (fun _ => False) w0
 refine f_enter (N := 15) Try.func60 rfl rfl rfl ?_
 change WC _ _ _ _ _ _ [(0, .int .i64 n), (1, .int .i64 lo), (2, .int .i64 hi)] _
 refine c_seq fun K1 hK1 => (c_region (t_assign rfl rfl rfl (t_nil' (hK1 _ _ (c_seq fun K2 hK2 => (c_region (t_move rfl rfl rfl (t_move rfl rfl rfl (t_cmp rfl rfl rfl rfl rfl (t_move rfl rfl rfl (t_splitp 10 rfl (fun g10 => ?_) (fun g10 => ?_))))))))))))
 ·
  refine t_move rfl rfl rfl (t_move rfl rfl rfl (t_cmp rfl rfl rfl rfl rfl (t_pick_t rfl rfl rfl rfl (t_assign rfl rfl rfl (t_nil' (hK2 _ _ (c_ret (f_ret1 (v := .bool (decide (n ≤ hi))) Try.results60 rfl ?_))))))))
  exact ⟨by simp [*], E0⟩
 ·
  refine t_skip rfl rfl rfl (t_skip rfl rfl rfl (t_skip rfl rfl rfl (t_pick_f rfl rfl rfl rfl (t_assign rfl rfl rfl (t_nil' (hK2 _ _ (c_ret (f_ret1 (v := .bool false) Try.results60 rfl ?_))))))))
  exact ⟨by simp [*], E0⟩

theorem rValid_c (a b lo hi : Int) (w0 : World) :
    CallsV Try.prog 71 [.agg #[.int .i64 a, .int .i64 b], .int .i64 lo, .int .i64 hi] w0 (fun v w' => v = .bool (decide ((lo ≤ a ∧ a ≤ hi) ∧ (a ≤ b ∧ b ≤ hi))) ∧ Ext w0 w') := by
 have E0 := Upd.refl (fun _ => False) w0
 refine f_enter (N := 20) Try.func71 rfl rfl rfl ?_
 change WC _ _ _ _ _ _ [(0, .agg #[.int .i64 a, .int .i64 b]), (1, .int .i64 lo), (2, .int .i64 hi)] _
 refine c_seq fun K1 hK1 => (c_region (t_box (cs := [.int .i64 a, .int .i64 b]) rfl rfl rfl rfl (fun bk2 w3 ebk2 sbk2 B4 u5 => ?_)))
 have zu5 := u5.size
 have E6 := E0.next u5 (fun _ _ h => h.elim)
 refine t_assign rfl rfl rfl (t_nil' (hK1 _ _ (c_seq fun K7 hK7 => (c_region (t_field Try.underlying45 rfl Try.sizeOf3 (0) rfl rfl rfl rfl (t_load Try.isAgg3 rfl rfl rfl (B4.get rfl) (t_move rfl rfl rfl (t_move rfl rfl rfl (t_call (vs := [.int .i64 a, .int .i64 lo, .int .i64 hi]) own60 rfl rfl rfl rfl (rIn_c a lo hi _) (fun v8 w9 r11 => ?_))))))))))
 obtain ⟨rfl, u10⟩ := r11
 have zu10 := u10.size
 have E12 := E6.next u10 (fun _ _ h => h.elim)
 refine t_move rfl rfl rfl (t_splitp 12 rfl (fun g12 => ?_) (fun g12 => ?_))
 ·
  refine t_field Try.underlying45 rfl Try.sizeOf3 (1) rfl rfl rfl rfl ?_
  have B13 := (B4.keep u10 (fun h => h))
  refine t_load Try.isAgg3 rfl rfl rfl (B13.get rfl) (t_field Try.underlying45 rfl Try.sizeOf3 (0) rfl rfl rfl rfl (t_load Try.isAgg3 rfl rfl rfl (B13.get rfl) (t_move rfl rfl rfl (t_call (vs := [.int .i64 b, .int .i64 a, .int .i64 hi]) own60 rfl rfl rfl rfl (rIn_c b a hi _) (fun v14 w15 r17 => ?_)))))
  obtain ⟨rfl, u16⟩ := r17
  have zu16 := u16.size
  have E18 := E12.next u16 (fun _ _ h => h.elim)
  refine t_pick_t rfl rfl rfl rfl (t_assign rfl rfl rfl (t_nil' (hK7 _ _ (c_ret (f_ret1 (v := .bool (decide (a ≤ b ∧ b ≤ hi))) Try.results71 rfl ?_)))))
  exact ⟨by simp [*], E18⟩
 ·
  refine t_skip rfl rfl rfl (t_skip rfl rfl rfl (t_skip rfl rfl rfl (t_skip rfl rfl rfl (t_skip rfl rfl rfl (t_skip rfl rfl rfl (t_pick_f rfl rfl rfl rfl (t_assign rfl rfl rfl (t_nil' (hK7 _ _ (c_ret (f_ret1 (v := .bool false) Try.results71 rfl ?_)))))))))))
  exact ⟨by simp [*], E12⟩

end Go.Proofs.Ytmicjleiheoieaa
