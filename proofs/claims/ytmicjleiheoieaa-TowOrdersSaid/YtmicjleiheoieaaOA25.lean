/-
  Contracts of lists compared and of the reference's rows. Conditions: none.
-/
import Derived.Test.YtmicjleiheoieaaOA7
import Derived.Test.YtmicjleiheoieaaOA23
namespace Go.Proofs.Ytmicjleiheoieaa
open Go Go.RowKit
structure RowsPre (xs : List Hull) (W : Int) (ao : Option Addr) (b o cap n a : Nat) (w : World) : Prop where
  n10 : n ≤ 10
  ale : a ≤ xs.length
  sl : Sl encHull 3 w ao b o xs
  len : xs.length ≤ 1000000
  ok : ∀ h ∈ xs, okHull h = true
  wid : 0 ≤ W ∧ W ≤ 200
theorem own21 : Own Try.prog 21 := ⟨Try.f21, Try.func21, by kernel_rfl, by kernel_rfl⟩
theorem equal_c (xs : List Int) (ax : Option Addr) (bx ox cx : Nat) (ay : Option Addr) (by_ oy cy : Nat) (w0 : World) (hx : Sl encI 1 w0 ax bx ox xs) (hy : Sl encI 1 w0 ay by_ oy xs) (hl : xs.length ≤ 1000000) :
    CallsV Try.prog 21 [.slice ax xs.length cx, .slice ay xs.length cy] w0 (fun v w' => v = .bool true ∧ Ext w0 w') := by
 have E0 := Upd.refl (fun _ => False) w0
 refine f_enter (N := 26) Try.func21 rfl rfl rfl ?_
 change WC _ _ _ _ _ _ [(0, .slice ax xs.length cx), (1, .slice ay xs.length cy)] _
 refine c_seq fun K1 hK1 => (c_region (t_assign rfl rfl rfl (t_nil' (hK1 _ _ (c_seq fun K2 hK2 => (c_seq fun K3 hK3 => (c_region (t_move rfl rfl rfl (t_len Try.underlying27 rfl rfl rfl rfl (t_move rfl rfl rfl (t_len Try.underlying27 rfl rfl rfl rfl (t_cmp rfl rfl rfl rfl rfl (t_samehd (v := .bool false) (by simp) (t_nil' (hK3 _ _ (c_cond_f rfl (c_skip (hK2 _ _ (c_seq fun K4 hK4 => (c_seq fun K5 hK5 => (c_region (t_assign rfl rfl rfl (t_nil' ?_)))))))))))))))))))))))
 refine hK5 _ _ (c_block (c_loop (γ := Nat) (fun k => [(0, .slice ax xs.length cx), (1, .slice ay xs.length cy), (5, .int .i64 (k : Int))]) (fun k w => Upd (fun _ => False) w0 w ∧ (k ≤ xs.length)) (fun k => xs.length - k) 0 ⟨rfl, rfl, rfl, trivial⟩ ⟨Upd.refl _ _, Nat.zero_le _⟩ ?_))
 intro k w7 hW K6 hK6
 obtain ⟨u8, I9⟩ := hW
 have zu8 := u8.size
 have E10 := E0.next u8 (fun _ _ h => h.elim)
 have hk := I9; clear I9
 refine c_seq fun K11 hK11 => (c_seq fun K12 hK12 => (c_region (t_move rfl rfl rfl (t_move rfl rfl rfl (t_len Try.underlying27 rfl rfl rfl rfl (t_cmp rfl rfl rfl rfl rfl (t_nil' (hK12 _ _ (c_condp rfl (fun g14 => ?_) (fun g14 => ?_))))))))))
 ·
  refine c_skip (hK11 _ _ (c_seq fun K13 hK13 => (c_block (c_seq fun K14 hK14 => (WC.weak [(0, .slice ax xs.length cx), (1, .slice ay xs.length cy), (5, .int .i64 (k : Int))] ⟨rfl, rfl, rfl, trivial⟩ (c_drawn follows 9 [some (17, some (.slice ax xs.length cx)), some (18, some (.int .i64 (k : Int))), some (19, some (.pointer (some ⟨bx, ox + k * 1, none⟩))), some (20, some (.int .i64 (nth xs k))), some (21, some (.slice ay xs.length cy)), some (22, some (.int .i64 (k : Int))), some (23, some (.pointer (some ⟨by_, oy + k * 1, none⟩))), some (24, some (.int .i64 (nth xs k))), some (25, some (.bool false))] [[],[],[0,1],[2],[],[],[4,5],[6],[3,7]] (fun _ _ w => Upd (fun _ => False) w7 w) rfl rfl rfl (by kernel_rfl) (by kernel_rfl) (Upd.drew _).to ⟨?_, ?_, ?_, ?_, ?_, ?_, ?_, ?_, ?_, trivial⟩ ?_))))))
  · exact pz rfl rfl rfl rfl fun _ _ _ h => h
  · exact pz rfl rfl rfl rfl fun _ _ _ h => h
  ·
   intro D ρ w17 hcD hnD hdD hW
   have zhW := hW.size
   have E19 := E10.next hW (fun _ _ h => h.elim)
   refine ⟨_, kf_fr [17, 18], fun Lr => ?_⟩
   have i20 : k < xs.length := (by omega)
   refine t_index (j := k) Try.underlying27 Try.sizeOf3 rfl rfl rfl rfl ((hx.keep E19 (fun _ h => h)).addr (by omega)) rfl i20 ?_
   exact dz rfl hW
  ·
   intro D ρ w21 hcD hnD hdD hW
   have zhW := hW.size
   have E23 := E10.next hW (fun _ _ h => h.elim)
   refine ⟨_, kf_fr [19], fun Lr => ?_⟩
   refine t_load Try.isAgg3 rfl rfl rfl (((hx.keep E23 (fun _ h => h)).at_ k (by omega)) 0 _ rfl) ?_
   exact dz rfl hW
  · exact pz rfl rfl rfl rfl fun _ _ _ h => h
  · exact pz rfl rfl rfl rfl fun _ _ _ h => h
  ·
   intro D ρ w24 hcD hnD hdD hW
   have zhW := hW.size
   have E26 := E10.next hW (fun _ _ h => h.elim)
   refine ⟨_, kf_fr [21, 22], fun Lr => ?_⟩
   have i27 : k < xs.length := (by omega)
   refine t_index (j := k) Try.underlying27 Try.sizeOf3 rfl rfl rfl rfl ((hy.keep E26 (fun _ h => h)).addr (by omega)) rfl i27 ?_
   exact dz rfl hW
  ·
   intro D ρ w28 hcD hnD hdD hW
   have zhW := hW.size
   have E30 := E10.next hW (fun _ _ h => h.elim)
   refine ⟨_, kf_fr [23], fun Lr => ?_⟩
   refine t_load Try.isAgg3 rfl rfl rfl (((hy.keep E30 (fun _ h => h)).at_ k (by omega)) 0 _ rfl) ?_
   exact dz rfl hW
  ·
   intro D ρ w31 hcD hnD hdD hW
   have zhW := hW.size
   refine ⟨_, kf_fr [20, 24], fun Lr => ?_⟩
   refine t_cmp rfl rfl rfl rfl rfl (t_samehd (v := .bool false) (by simp) ?_)
   exact dz rfl hW
  intro ρ w34 hW
  have u35 : Upd (fun _ => False) w7 w34 := hW
  have zu35 := u35.size
  refine QK.weak [(0, .slice ax xs.length cx), (1, .slice ay xs.length cy), (5, .int .i64 (k : Int)), (25, .bool false)] ⟨rfl, rfl, rfl, rfl, trivial⟩ (hK14 _ _ (c_cond_f rfl (c_skip (hK13 _ _ (c_region (t_move rfl rfl rfl (t_ari rfl rfl rfl rfl rfl (by omega) (t_assign rfl rfl rfl (t_nil' ?_)))))))))
  exact hK6 (k + 1) _ _ (by omega) ⟨rfl, rfl, rfl, trivial⟩ ⟨(u8.next u35 (fun _ _ h => h.elim)), (by omega)⟩
 ·
  refine c_exit (hK4 _ _ (c_seq fun K37 hK37 => (c_region (t_assign rfl rfl rfl (t_nil' (hK37 _ _ (c_ret (f_ret1 (v := .bool true) Try.results21 rfl ?_))))))))
  exact ⟨rfl, E10⟩

end Go.Proofs.Ytmicjleiheoieaa
