/-
  The iterator over a list from its end. Conditions: none.
-/
import Derived.Test.YtblkphbblkncdaaA3
namespace Go.Proofs.Ytblkphbblkncdaa
open Go Go.RowKit
/-- An element that is handed out: its place, and the world then. -/
structure BkE where
  i : Nat
  w : World
def YBk (n D : Nat) (C : Nat → World → Prop) (x : BkE) (W : World) : Prop := x.i < n ∧ C (x.i + 1) W ∧ D + 1 < W.heap.size ∧ Upd (fun _ => True) x.w W
def ZBk (C : Nat → World → Prop) (x : BkE) (W : World) : Prop := C x.i W ∧ Upd (fun _ => True) x.w W



theorem back_c (xs : List Span) (ao : Option Addr) (b o cap : Nat) (bx l D : Nat) (C : Nat → World → Prop) (R : World → Prop) (w0 : World) (hC : ∀ k W W', C k W → Ext W W' → C k W') (hM : ∀ k W, C k W → Blk W bx 145 [.slice ao xs.length cap] ∧ Sl encSpan 3 W ao b o xs) (hH : Hands2 Try.prog l D (fun x : BkE => .int .i64 (x.i : Int)) (fun x : BkE => .agg (encSpan (nth xs x.i)).toArray) (YBk xs.length D C) (ZBk C) R) (hc : C xs.length w0) (hr : R w0) (hD : D + 1 < w0.heap.size) (hl : xs.length ≤ 1000000) :
    CallsV Try.prog 82 [.func (.yield l) #[] #[], .pointer (some ⟨bx, 0, none⟩)] w0 (fun _ w' => C 0 w' ∧ R w') := by
 have hR : ∀ W W', R W → Ext W W' → R W' := fun W W' h u => hH.keep h u (fun h => h) (fun h => h)
 have hm0 := hM _ _ hc
 have hb0 := hm0.1
 have hxs := hm0.2
 refine f_enter (N := 19) Try.func82 rfl rfl rfl (c_seq fun K1 hK1 => (c_region (t_load Try.isAgg145 rfl rfl rfl (hb0.get rfl) (t_len Try.underlying145 rfl rfl rfl rfl (t_ari rfl rfl rfl rfl rfl (by omega) (t_assign rfl rfl rfl (t_nil' (hK1 _ _ (c_block (c_loop (γ := Nat) (fun k => [(0, .func (.yield l) #[] #[]), (1, .pointer (some ⟨bx, 0, none⟩)), (3, .int .i64 ((k : Int) - 1))]) (fun k w => Upd (fun i => (fun _ => True) i) w0 w ∧ (k ≤ xs.length) ∧ (C k w) ∧ (R w)) (fun k => k) xs.length ⟨rfl, rfl, rfl, trivial⟩ ⟨Upd.refl _ _, (Nat.le_refl _), hc, hr⟩ ?_))))))))))
 intro k w3 hW K2 hK2
 obtain ⟨u4, I5, I6, I7⟩ := hW
 have zu4 := u4.size
 have hk := I5; clear I5
 have hCk := I6; clear I6
 have hRk := I7; clear I7
 have hm1 := hM _ _ hCk
 refine c_seq fun K9 hK9 => (c_seq fun K10 hK10 => (c_region (t_move rfl rfl rfl (t_cmp rfl rfl rfl rfl rfl (t_nil' (hK10 _ _ (c_condp rfl (fun g8 => ?_) (fun g8 => ?_))))))))
 ·
  refine c_skip (hK9 _ _ (c_seq fun K11 hK11 => (c_block (c_seq fun K12 hK12 => (c_region (t_move rfl rfl rfl (t_move rfl rfl rfl (t_same 12 (v := .int .i64 ((k - 1 : Nat) : Int)) rfl (congrArg (Value.int .i64) (show (k : Int) - 1 = ((k - 1 : Nat) : Int) by omega)) (t_load Try.isAgg145 rfl rfl rfl (hm1.1.get rfl) (t_move rfl rfl rfl ?_))))))))))
  have i13 : (k - 1) < xs.length := (by omega)
  refine t_index (j := (k - 1)) Try.underlying145 Try.sizeOf144 rfl rfl rfl rfl (hm1.2.addr (by omega)) (by omega) i13 (t_loadN (vs := [.int .i64 ((nth xs (k - 1)).lo), .int .i64 ((nth xs (k - 1)).hi), .int .i64 ((nth xs (k - 1)).en)]) Try.isAgg144 Try.sizeOf144 rfl rfl rfl ((hm1.2.at_ (k - 1) (by omega)).sub 0 3) rfl (t_yield (vs := [.int .i64 ((k - 1 : Nat) : Int), .agg #[.int .i64 ((nth xs (k - 1)).lo), .int .i64 ((nth xs (k - 1)).hi), .int .i64 ((nth xs (k - 1)).en)]]) rfl rfl rfl rfl (hH.hand ⟨k - 1, w3⟩ _ ⟨(by show k - 1 < xs.length; omega), (by show C (k - 1 + 1) _; rw [show k - 1 + 1 = k by omega]; exact hCk), (by omega), Upd.refl _ _⟩ hRk) (by rintro e w' ⟨rfl, _⟩; exact ⟨_, rfl⟩) (fun v14 w15 r16 => ?_)))
  obtain ⟨hvr16, hrr16⟩ := r16
  injection hvr16 with hvr16
  subst hvr16
  obtain ⟨⟨hzC, u17⟩, hzR⟩ := hrr16
  have zu17 := u17.size
  have hm2 := hM _ _ hzC
  refine t_not rfl rfl rfl (t_nil' (hK12 _ _ (c_cond_f rfl (c_skip (hK11 _ _ (c_region (t_move rfl rfl rfl (t_ari rfl rfl rfl rfl rfl (by omega) (t_assign rfl rfl rfl (t_nil' ?_))))))))))
  exact hK2 (k - 1) _ _ (by omega) ⟨rfl, rfl, (congrArg some (congrArg (Value.int .i64) (by show (k : Int) - 1 - 1 = ((k - 1 : Nat) : Int) - 1; omega))), trivial⟩ ⟨(u4.next u17 (fun _ _ _ => trivial)), (by omega), hzC, hzR⟩
 refine c_exit (f_ret0 Try.results82 ?_)
 exact ⟨(by rw [show 0 = k by omega]; exact hCk), hRk⟩

end Go.Proofs.Ytblkphbblkncdaa
