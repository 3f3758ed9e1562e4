/-
  The small functions of the law. Conditions: none.
-/
import Derived.Test.YtblkphbblkncdaaA16
namespace Go.Proofs.Ytblkphbblkncdaa
open Go Go.RowKit

theorem Sl.ofBlk {α : Type} [Inhabited α] {enc : α → List Value} {k : Nat} (hk : ∀ x, (enc x).length = k) {w : World} {b : Nat} {t : TypeId} {xs : List α} (h : Blk w b t (xs.flatMap enc)) : Sl enc k w (some ⟨b, 0, none⟩) b 0 xs :=
  ⟨fun _ => rfl, fun _ => h.lt, fun i hi j v hv => by
    have h1 := flatMap_at hk xs i j v hi hv
    rw [Nat.zero_add]
    exact h.get h1⟩
theorem take_eq {α : Type} [Inhabited α] {a b : List α} {k : Nat} (h : a.take k = b.take k) (ha : k < a.length) (hb : k < b.length) (hx : nth a k = nth b k) : a.take (k + 1) = b.take (k + 1) := by rw [take_nth ha, take_nth hb, h, hx]
theorem all_eq {α : Type} {a b : List α} {k : Nat} (h : a.take k = b.take k) (ha : a.length ≤ k) (hb : b.length ≤ k) : a = b := by rwa [List.take_of_length_le ha, List.take_of_length_le hb] at h
theorem ne_at {α : Type} [Inhabited α] {a b : List α} {k : Nat} (h : nth a k ≠ nth b k) : a ≠ b := fun e => h (by rw [e])
def rowV (r : RowL) : List Lay := r.xs.map HLay.v
theorem lay_eq {x y : Lay} (h1 : x.bill = y.bill) (h2 : x.tons = y.tons) (h3 : x.path = y.path) : x = y := by cases x; cases y; simp_all
instance : DecidableEq Lay := fun x y => decidable_of_iff (x.bill = y.bill ∧ x.tons = y.tons ∧ x.path = y.path) ⟨fun h => lay_eq h.1 h.2.1 h.2.2, fun h => by subst h; exact ⟨rfl, rfl, rfl⟩⟩

theorem own26 : Own Try.prog 26 := ⟨Try.f26, Try.func26, by kernel_rfl, by kernel_rfl⟩
theorem own20 : Own Try.prog 20 := ⟨Try.f20, Try.func20, by kernel_rfl, by kernel_rfl⟩
theorem own19 : Own Try.prog 19 := ⟨Try.f19, Try.func19, by kernel_rfl, by kernel_rfl⟩
theorem own10 : Own Try.prog 10 := ⟨Try.f10, Try.func10, by kernel_rfl, by kernel_rfl⟩
theorem own12 : Own Try.prog 12 := ⟨Try.f12, Try.func12, by kernel_rfl, by kernel_rfl⟩
theorem own13 : Own Try.prog 13 := ⟨Try.f13, Try.func13, by kernel_rfl, by kernel_rfl⟩
theorem own36 : Own Try.prog 36 := ⟨Try.f36, Try.func36, by kernel_rfl, by kernel_rfl⟩
theorem own37 : Own Try.prog 37 := ⟨Try.f37, Try.func37, by kernel_rfl, by kernel_rfl⟩

theorem numbers_c (xa xb : List Int) (aa ab : Option Addr) (ba bb oa ob ca cb : Nat) (w0 : World) (ha : Sl encI 1 w0 aa ba oa xa) (hb : Sl encI 1 w0 ab bb ob xb) (hl : xa.length ≤ 1000000) :
    CallsV Try.prog 26 [.slice aa (List.length xa) ca, .slice ab (List.length xb) cb] w0 (fun v w' => v = .bool (decide (xa = xb)) ∧ Ext w0 w') := by
 have E0 := Upd.refl (fun _ => False) w0
 refine f_enter (N := 26) Try.func26 rfl rfl rfl (c_seq fun K1 hK1 => (c_region (t_assign rfl rfl rfl (t_nil' (hK1 _ _ (c_seq fun K2 hK2 => (c_seq fun K3 hK3 => (c_region (t_move rfl rfl rfl (t_len Try.underlying45 rfl rfl rfl rfl (t_move rfl rfl rfl (t_len Try.underlying45 rfl rfl rfl rfl (t_cmp rfl rfl rfl rfl rfl (t_nil' (hK3 _ _ (c_condp rfl (fun g10 => ?_) (fun g10 => ?_)))))))))))))))))
 ·
  refine c_seq fun K4 hK4 => (c_region (t_assign rfl rfl rfl (t_nil' (hK4 _ _ (c_ret (f_ret1 (v := .bool false) Try.results26 rfl ?_))))))
  exact ⟨by rw [decide_eq_false (fun e => g10 (by rw [e]))], E0⟩
 refine c_skip (hK2 _ _ (c_seq fun K5 hK5 => (c_seq fun K6 hK6 => (c_region (t_assign rfl rfl rfl (t_nil' (hK6 _ _ (c_block (c_loop (γ := Nat) (fun k => [(0, .slice aa (List.length xa) ca), (1, .slice ab (List.length xb) cb), (5, .int .i64 (k : Int))]) (fun k w => Upd (fun _ => False) w0 w ∧ (k ≤ xa.length) ∧ (xa.take k = xb.take k)) (fun k => xa.length - k) 0 ⟨rfl, rfl, rfl, trivial⟩ ⟨Upd.refl _ _, (Nat.zero_le _), (by simp)⟩ ?_)))))))))
 intro k w8 hW K7 hK7
 obtain ⟨u9, I10, I11⟩ := hW
 have zu9 := u9.size
 have E12 := E0.nx u9
 have hk := I10; clear I10
 have heq := I11; clear I11
 refine c_seq fun K13 hK13 => (c_seq fun K14 hK14 => (c_region (t_move rfl rfl rfl (t_move rfl rfl rfl (t_len Try.underlying45 rfl rfl rfl rfl (t_cmp rfl rfl rfl rfl rfl (t_nil' (hK14 _ _ (c_condp rfl (fun g14 => ?_) (fun g14 => ?_))))))))))
 ·
  refine c_skip (hK13 _ _ (c_seq fun K15 hK15 => (c_block (c_seq fun K16 hK16 => (c_drawnQ follows (by kernel_rfl) (p_move rfl rfl rfl (p_move rfl rfl rfl ?_)))))))
  have i19 : k < xa.length := (by omega)
  refine p_index (j := k) Try.underlying45 Try.sizeOf3 rfl rfl rfl rfl ((ha.keep E12 (fun _ h => h)).addr (by omega)) rfl (by omega) (p_load Try.isAgg3 rfl rfl rfl (((ha.keep E12 (fun _ h => h)).at_ k (by omega)) 0 _ rfl) (p_move rfl rfl rfl (p_move rfl rfl rfl ?_)))
  have i20 : k < xb.length := (by omega)
  refine p_index (j := k) Try.underlying45 Try.sizeOf3 rfl rfl rfl rfl ((hb.keep E12 (fun _ h => h)).addr (by omega)) rfl (by omega) (p_load Try.isAgg3 rfl rfl rfl (((hb.keep E12 (fun _ h => h)).at_ k (by omega)) 0 _ rfl) (p_cmp rfl rfl rfl rfl rfl (p_nil fun w21 u22 => ?_)))
  have zu22 := u22.size
  refine t_nil' (hK16 _ _ (c_condp rfl (fun g25 => ?_) (fun g25 => ?_)))
  ·
   refine c_seq fun K24 hK24 => (c_region (t_assign rfl rfl rfl (t_nil' (hK24 _ _ (c_ret (f_ret1 (v := .bool false) Try.results26 rfl ?_))))))
   exact ⟨by rw [decide_eq_false (ne_at g25)], (E12.nx u22)⟩
  refine c_skip (hK15 _ _ (c_region (t_move rfl rfl rfl (t_ari rfl rfl rfl rfl rfl (by omega) (t_assign rfl rfl rfl (t_nil' ?_))))))
  exact hK7 (k + 1) _ _ (by omega) ⟨rfl, rfl, rfl, trivial⟩ ⟨(u9.next u22 (fun _ _ h => h.elim)), (by omega), (take_eq heq (by omega) (by omega) (Decidable.not_not.1 g25))⟩
 refine c_exit (hK5 _ _ (c_seq fun K25 hK25 => (c_region (t_assign rfl rfl rfl (t_nil' (hK25 _ _ (c_ret (f_ret1 (v := .bool true) Try.results26 rfl ?_))))))))
 exact ⟨by rw [decide_eq_true (all_eq heq (by omega) (by omega))], E12⟩

theorem layers_c (xa xb : List HLay) (aa ab : Option Addr) (ba bb ca cb : Nat) (w0 : World) (ha : LaysR w0 aa ba xa) (hb : LaysR w0 ab bb xb) (hl : xa.length ≤ 1000000) (hpl : ∀ x ∈ xa, x.v.path.length ≤ 1000000) :
    CallsV Try.prog 20 [.slice aa (List.length xa) ca, .slice ab (List.length xb) cb] w0 (fun v w' => v = .bool (decide (xa.map HLay.v = xb.map HLay.v)) ∧ Ext w0 w') := by
 have ha1 := ha.1
 have hb1 := hb.1
 have E0 := Upd.refl (fun _ => False) w0
 refine f_enter (N := 55) Try.func20 rfl rfl rfl (c_seq fun K1 hK1 => (c_region (t_assign rfl rfl rfl (t_nil' (hK1 _ _ (c_seq fun K2 hK2 => (c_seq fun K3 hK3 => (c_region (t_move rfl rfl rfl (t_len Try.underlying36 rfl rfl rfl rfl (t_move rfl rfl rfl (t_len Try.underlying36 rfl rfl rfl rfl (t_cmp rfl rfl rfl rfl rfl (t_nil' (hK3 _ _ (c_condp rfl (fun g10 => ?_) (fun g10 => ?_)))))))))))))))))
 ·
  refine c_seq fun K4 hK4 => (c_region (t_assign rfl rfl rfl (t_nil' (hK4 _ _ (c_ret (f_ret1 (v := .bool false) Try.results20 rfl ?_))))))
  exact ⟨by rw [decide_eq_false (fun e => g10 (by have h := congrArg List.length e; simp only [List.length_map] at h; rw [h]))], E0⟩
 refine c_skip (hK2 _ _ (c_seq fun K5 hK5 => (c_seq fun K6 hK6 => (c_region (t_assign rfl rfl rfl (t_nil' (hK6 _ _ (c_block (c_loop (γ := Nat) (fun k => [(0, .slice aa (List.length xa) ca), (1, .slice ab (List.length xb) cb), (5, .int .i64 (k : Int))]) (fun k w => Upd (fun _ => False) w0 w ∧ (k ≤ xa.length) ∧ ((xa.map HLay.v).take k = (xb.map HLay.v).take k)) (fun k => xa.length - k) 0 ⟨rfl, rfl, rfl, trivial⟩ ⟨Upd.refl _ _, (Nat.zero_le _), (by simp)⟩ ?_)))))))))
 intro k w8 hW K7 hK7
 obtain ⟨u9, I10, I11⟩ := hW
 have zu9 := u9.size
 have E12 := E0.nx u9
 have hk := I10; clear I10
 have heq := I11; clear I11
 refine c_seq fun K13 hK13 => (c_seq fun K14 hK14 => (c_region (t_move rfl rfl rfl (t_move rfl rfl rfl (t_len Try.underlying36 rfl rfl rfl rfl (t_cmp rfl rfl rfl rfl rfl (t_nil' (hK14 _ _ (c_condp rfl (fun g14 => ?_) (fun g14 => ?_))))))))))
 ·
  refine c_skip (hK13 _ _ (c_seq fun K15 hK15 => (c_block (c_seq fun K16 hK16 => (c_drawnQ follows (by kernel_rfl) (p_move rfl rfl rfl (p_move rfl rfl rfl ?_)))))))
  have i25 : k < xa.length := (by omega)
  refine p_index (j := k) Try.underlying36 Try.sizeOf97 rfl rfl rfl rfl ((ha1.keep E12 (fun _ h => h)).addr (by omega)) rfl (by omega) (p_field Try.underlying97 rfl Try.sizeOf3 (0 + k * 3 + 0) rfl rfl rfl rfl (p_load Try.isAgg3 rfl rfl rfl (((ha1.keep E12 (fun _ h => h)).at_ k (by omega)) 0 _ rfl) (p_move rfl rfl rfl (p_move rfl rfl rfl ?_))))
  have i26 : k < xb.length := (by omega)
  refine p_index (j := k) Try.underlying36 Try.sizeOf97 rfl rfl rfl rfl ((hb1.keep E12 (fun _ h => h)).addr (by omega)) rfl (by omega) (p_field Try.underlying97 rfl Try.sizeOf3 (0 + k * 3 + 0) rfl rfl rfl rfl (p_load Try.isAgg3 rfl rfl rfl (((hb1.keep E12 (fun _ h => h)).at_ k (by omega)) 0 _ rfl) (p_cmp rfl rfl rfl rfl rfl (p_move rfl rfl rfl (p_splitp 28 rfl (fun g28 => ?_) (fun g28 => ?_))))))
  ·
   refine p_skip rfl rfl rfl (p_skip rfl rfl rfl (p_skip rfl rfl rfl (p_skip rfl rfl rfl (p_skip rfl rfl rfl (p_skip rfl rfl rfl (p_skip rfl rfl rfl (p_skip rfl rfl rfl (p_skip rfl rfl rfl (p_skip rfl rfl rfl (p_skip rfl rfl rfl (p_pick_t rfl rfl rfl rfl (p_move rfl rfl rfl (p_skip rfl rfl rfl (p_skip rfl rfl rfl (p_skip rfl rfl rfl (p_skip rfl rfl rfl (p_skip rfl rfl rfl (p_skip rfl rfl rfl (p_skip rfl rfl rfl (p_skip rfl rfl rfl (p_skip rfl rfl rfl (p_skip rfl rfl rfl (p_skip rfl rfl rfl ?_)))))))))))))))))))))))
   refine p_skip rfl rfl rfl (p_pick_t rfl rfl rfl rfl (p_nil fun w27 u28 => ?_))
   have zu28 := u28.size
   refine t_nil' (hK16 _ _ (c_cond_t rfl (c_seq fun K30 hK30 => (c_region (t_assign rfl rfl rfl (t_nil' (hK30 _ _ (c_ret (f_ret1 (v := .bool false) Try.results20 rfl ?_)))))))))
   exact ⟨by rw [decide_eq_false (ne_at (k := k) (by rw [nth_mapl, nth_mapl]; exact fun e => g28 (by rw [e])))], (E12.nx u28)⟩
  refine p_move rfl rfl rfl (p_move rfl rfl rfl ?_)
  have i31 : k < xa.length := (by omega)
  refine p_index (j := k) Try.underlying36 Try.sizeOf97 rfl rfl rfl rfl ((ha1.keep E12 (fun _ h => h)).addr (by omega)) rfl (by omega) (p_field Try.underlying97 rfl Try.sizeOf3 (0 + k * 3 + 1) rfl rfl rfl rfl (p_load Try.isAgg3 rfl rfl rfl (((ha1.keep E12 (fun _ h => h)).at_ k (by omega)) 1 _ rfl) (p_move rfl rfl rfl (p_move rfl rfl rfl ?_))))
  have i32 : k < xb.length := (by omega)
  refine p_index (j := k) Try.underlying36 Try.sizeOf97 rfl rfl rfl rfl ((hb1.keep E12 (fun _ h => h)).addr (by omega)) rfl (by omega) (p_field Try.underlying97 rfl Try.sizeOf3 (0 + k * 3 + 1) rfl rfl rfl rfl (p_load Try.isAgg3 rfl rfl rfl (((hb1.keep E12 (fun _ h => h)).at_ k (by omega)) 1 _ rfl) (p_cmp rfl rfl rfl rfl rfl (p_pick_f rfl rfl rfl rfl (p_move rfl rfl rfl (p_splitp 41 rfl (fun g41 => ?_) (fun g41 => ?_)))))))
  ·
   refine p_skip rfl rfl rfl (p_skip rfl rfl rfl (p_skip rfl rfl rfl (p_skip rfl rfl rfl (p_skip rfl rfl rfl (p_skip rfl rfl rfl (p_skip rfl rfl rfl (p_skip rfl rfl rfl (p_skip rfl rfl rfl (p_skip rfl rfl rfl (p_skip rfl rfl rfl (p_skip rfl rfl rfl (p_pick_t rfl rfl rfl rfl (p_nil fun w33 u34 => ?_)))))))))))))
   have zu34 := u34.size
   refine t_nil' (hK16 _ _ (c_cond_t rfl (c_seq fun K36 hK36 => (c_region (t_assign rfl rfl rfl (t_nil' (hK36 _ _ (c_ret (f_ret1 (v := .bool false) Try.results20 rfl ?_)))))))))
   exact ⟨by rw [decide_eq_false (ne_at (k := k) (by rw [nth_mapl, nth_mapl]; exact fun e => g41 (by rw [e])))], (E12.nx u34)⟩
  refine p_move rfl rfl rfl (p_move rfl rfl rfl ?_)
  have i37 : k < xa.length := (by omega)
  refine p_index (j := k) Try.underlying36 Try.sizeOf97 rfl rfl rfl rfl ((ha1.keep E12 (fun _ h => h)).addr (by omega)) rfl (by omega) (p_field Try.underlying97 rfl Try.sizeOf45 (0 + k * 3 + 2) rfl rfl rfl rfl (p_load Try.isAgg45 rfl rfl rfl (((ha1.keep E12 (fun _ h => h)).at_ k (by omega)) 2 _ rfl) (p_move rfl rfl rfl (p_move rfl rfl rfl ?_))))
  have i38 : k < xb.length := (by omega)
  refine p_index (j := k) Try.underlying36 Try.sizeOf97 rfl rfl rfl rfl ((hb1.keep E12 (fun _ h => h)).addr (by omega)) rfl (by omega) (p_field Try.underlying97 rfl Try.sizeOf45 (0 + k * 3 + 2) rfl rfl rfl rfl (p_load Try.isAgg45 rfl rfl rfl (((hb1.keep E12 (fun _ h => h)).at_ k (by omega)) 2 _ rfl) (p_call (v := .bool (decide ((nth xa k).v.path = (nth xb k).v.path))) own26 rfl rfl rfl rfl (fun _ u39 => (numbers_c ((nth xa k).v.path) ((nth xb k).v.path) ((nth xa k).ao) ((nth xb k).ao) (nth xa k).b (nth xb k).b 0 0 ((nth xa k).cap) ((nth xb k).cap) _ ((ha.2 (nth xa k) (nth_mem (by omega))).keep (E12.nx u39) (fun _ h => h)) ((hb.2 (nth xb k) (nth_mem (by omega))).keep (E12.nx u39) (fun _ h => h)) (hpl _ (nth_mem (by omega))))) (p_notp rfl rfl rfl (p_pick_f rfl rfl rfl rfl (p_nil fun w41 u42 => ?_))))))
  have zu42 := u42.size
  refine t_nil' (hK16 _ _ (c_condp rfl (fun g54 => ?_) (fun g54 => ?_)))
  ·
   refine c_seq fun K44 hK44 => (c_region (t_assign rfl rfl rfl (t_nil' (hK44 _ _ (c_ret (f_ret1 (v := .bool false) Try.results20 rfl ?_))))))
   exact ⟨by rw [decide_eq_false (ne_at (k := k) (by rw [nth_mapl, nth_mapl]; exact fun e => g54 (by rw [e])))], (E12.nx u42)⟩
  refine c_skip (hK15 _ _ (c_region (t_move rfl rfl rfl (t_ari rfl rfl rfl rfl rfl (by omega) (t_assign rfl rfl rfl (t_nil' ?_))))))
  exact hK7 (k + 1) _ _ (by omega) ⟨rfl, rfl, rfl, trivial⟩ ⟨(u9.next u42 (fun _ _ h => h.elim)), (by omega), (take_eq heq (by rw [List.length_map]; omega) (by rw [List.length_map]; omega) (by rw [nth_mapl, nth_mapl]; exact lay_eq (Decidable.not_not.1 g28) (Decidable.not_not.1 g41) (Decidable.not_not.1 g54)))⟩
 refine c_exit (hK5 _ _ (c_seq fun K45 hK45 => (c_region (t_assign rfl rfl rfl (t_nil' (hK45 _ _ (c_ret (f_ret1 (v := .bool true) Try.results20 rfl ?_))))))))
 exact ⟨by rw [decide_eq_true (all_eq heq (by rw [List.length_map]; omega) (by rw [List.length_map]; omega))], E12⟩

theorem holds_c (xa xb : List RowL) (aa ab : Option Addr) (ba bb ca cb : Nat) (w0 : World) (ha : Sl encRowL 1 w0 aa ba 0 xa) (hb : Sl encRowL 1 w0 ab bb 0 xb) (ha2 : ∀ r ∈ xa, LaysR w0 r.ao r.g r.xs) (hb2 : ∀ r ∈ xb, LaysR w0 r.ao r.g r.xs) (hl : xa.length ≤ 1000000) (hpl : ∀ r ∈ xa, r.xs.length ≤ 1000000 ∧ ∀ x ∈ r.xs, x.v.path.length ≤ 1000000) :
    CallsV Try.prog 19 [.slice aa (List.length xa) ca, .slice ab (List.length xb) cb] w0 (fun v w' => v = .bool (decide (xa.map rowV = xb.map rowV)) ∧ Ext w0 w') := by
 have E0 := Upd.refl (fun _ => False) w0
 refine f_enter (N := 27) Try.func19 rfl rfl rfl (c_seq fun K1 hK1 => (c_region (t_assign rfl rfl rfl (t_nil' (hK1 _ _ (c_seq fun K2 hK2 => (c_seq fun K3 hK3 => (c_region (t_move rfl rfl rfl (t_len Try.underlying33 rfl rfl rfl rfl (t_move rfl rfl rfl (t_len Try.underlying33 rfl rfl rfl rfl (t_cmp rfl rfl rfl rfl rfl (t_nil' (hK3 _ _ (c_condp rfl (fun g10 => ?_) (fun g10 => ?_)))))))))))))))))
 ·
  refine c_seq fun K4 hK4 => (c_region (t_assign rfl rfl rfl (t_nil' (hK4 _ _ (c_ret (f_ret1 (v := .bool false) Try.results19 rfl ?_))))))
  exact ⟨by rw [decide_eq_false (fun e => g10 (by have h := congrArg List.length e; simp only [List.length_map] at h; rw [h]))], E0⟩
 refine c_skip (hK2 _ _ (c_seq fun K5 hK5 => (c_seq fun K6 hK6 => (c_region (t_assign rfl rfl rfl (t_nil' (hK6 _ _ (c_block (c_loop (γ := Nat) (fun k => [(0, .slice aa (List.length xa) ca), (1, .slice ab (List.length xb) cb), (5, .int .i64 (k : Int))]) (fun k w => Upd (fun _ => False) w0 w ∧ (k ≤ xa.length) ∧ ((xa.map rowV).take k = (xb.map rowV).take k)) (fun k => xa.length - k) 0 ⟨rfl, rfl, rfl, trivial⟩ ⟨Upd.refl _ _, (Nat.zero_le _), (by simp)⟩ ?_)))))))))
 intro k w8 hW K7 hK7
 obtain ⟨u9, I10, I11⟩ := hW
 have zu9 := u9.size
 have E12 := E0.nx u9
 have hk := I10; clear I10
 have heq := I11; clear I11
 refine c_seq fun K13 hK13 => (c_seq fun K14 hK14 => (c_region (t_move rfl rfl rfl (t_move rfl rfl rfl (t_len Try.underlying33 rfl rfl rfl rfl (t_cmp rfl rfl rfl rfl rfl (t_nil' (hK14 _ _ (c_condp rfl (fun g14 => ?_) (fun g14 => ?_))))))))))
 ·
  refine c_skip (hK13 _ _ (c_seq fun K15 hK15 => (c_block (c_seq fun K16 hK16 => (c_drawnQ follows (by kernel_rfl) (p_move rfl rfl rfl (p_move rfl rfl rfl ?_)))))))
  have i21 : k < xa.length := (by omega)
  refine p_index (j := k) Try.underlying33 Try.sizeOf36 rfl rfl rfl rfl ((ha.keep E12 (fun _ h => h)).addr (by omega)) rfl (by omega) (p_load Try.isAgg36 rfl rfl rfl (((ha.keep E12 (fun _ h => h)).at_ k (by omega)) 0 _ rfl) (p_move rfl rfl rfl (p_move rfl rfl rfl ?_)))
  have i22 : k < xb.length := (by omega)
  refine p_index (j := k) Try.underlying33 Try.sizeOf36 rfl rfl rfl rfl ((hb.keep E12 (fun _ h => h)).addr (by omega)) rfl (by omega) (p_load Try.isAgg36 rfl rfl rfl (((hb.keep E12 (fun _ h => h)).at_ k (by omega)) 0 _ rfl) (p_call (v := .bool (decide ((nth xa k).xs.map HLay.v = (nth xb k).xs.map HLay.v))) own20 rfl rfl rfl rfl (fun _ u23 => (layers_c ((nth xa k).xs) ((nth xb k).xs) ((nth xa k).ao) ((nth xb k).ao) (nth xa k).g (nth xb k).g ((nth xa k).cp) ((nth xb k).cp) _ ((ha2 (nth xa k) (nth_mem (by omega))).keep (E12.nx u23) (fun _ _ h => h)) ((hb2 (nth xb k) (nth_mem (by omega))).keep (E12.nx u23) (fun _ _ h => h)) (hpl _ (nth_mem (by omega))).1 (hpl _ (nth_mem (by omega))).2)) (p_notp rfl rfl rfl (p_nil fun w25 u26 => ?_))))
  have zu26 := u26.size
  refine t_nil' (hK16 _ _ (c_condp rfl (fun g26 => ?_) (fun g26 => ?_)))
  ·
   refine c_seq fun K28 hK28 => (c_region (t_assign rfl rfl rfl (t_nil' (hK28 _ _ (c_ret (f_ret1 (v := .bool false) Try.results19 rfl ?_))))))
   exact ⟨by rw [decide_eq_false (ne_at (k := k) (by rw [nth_map rowV (by omega), nth_map rowV (by omega)]; exact g26))], (E12.nx u26)⟩
  refine c_skip (hK15 _ _ (c_region (t_move rfl rfl rfl (t_ari rfl rfl rfl rfl rfl (by omega) (t_assign rfl rfl rfl (t_nil' ?_))))))
  exact hK7 (k + 1) _ _ (by omega) ⟨rfl, rfl, rfl, trivial⟩ ⟨(u9.next u26 (fun _ _ h => h.elim)), (by omega), (take_eq heq (by rw [List.length_map]; omega) (by rw [List.length_map]; omega) (by rw [nth_map rowV (by omega), nth_map rowV (by omega)]; exact Decidable.not_not.1 g26))⟩
 refine c_exit (hK5 _ _ (c_seq fun K29 hK29 => (c_region (t_assign rfl rfl rfl (t_nil' (hK29 _ _ (c_ret (f_ret1 (v := .bool true) Try.results19 rfl ?_))))))))
 exact ⟨by rw [decide_eq_true (all_eq heq (by rw [List.length_map]; omega) (by rw [List.length_map]; omega))], E12⟩

theorem great_c (bs : List Bil) (ab : Option Addr) (bb ob cb : Nat) (hs : List Hld) (ah : Option Addr) (bh oh ch : Nat) (us : List Ev) (ae : Option Addr) (be oe ce : Nat) (w0 : World) :
    CallsV Try.prog 10 [.agg #[.slice ab bs.length cb, .slice ah hs.length ch], .slice ae us.length ce] w0 (fun v w' => v = .bool (decide (35 < bs.length ∨ 25 < hs.length ∨ 120 < us.length)) ∧ Ext w0 w') := by
 refine f_enter (N := 20) Try.func10 rfl rfl rfl (c_seq fun K1 hK1 => (c_region (t_box (cs := [.slice ab bs.length cb, .slice ah hs.length ch]) rfl rfl rfl rfl (fun bk2 w3 ebk2 sbk2 B4 u5 => ?_))))
 have zu5 := u5.size
 have E6 := (Upd.refl (fun _ => False) w0).nx u5
 refine t_assign rfl rfl rfl (t_nil' (hK1 _ _ (c_seq fun K7 hK7 => (c_region (t_field Try.underlying25 rfl Try.sizeOf22 (0) rfl rfl rfl rfl (t_load Try.isAgg22 rfl rfl rfl (B4.get rfl) (t_len Try.underlying22 rfl rfl rfl rfl (t_cmp rfl rfl rfl rfl rfl (t_move rfl rfl rfl (t_splitp 9 rfl (fun g9 => ?_) (fun g9 => ?_)))))))))))
 ·
  refine t_skip rfl rfl rfl (t_skip rfl rfl rfl (t_skip rfl rfl rfl (t_skip rfl rfl rfl (t_pick_t rfl rfl rfl rfl (t_move rfl rfl rfl (t_skip rfl rfl rfl (t_skip rfl rfl rfl (t_skip rfl rfl rfl (t_pick_t rfl rfl rfl rfl (t_assign rfl rfl rfl (t_nil' (hK7 _ _ (c_ret (f_ret1 (v := .bool true) Try.results10 rfl ?_))))))))))))))
  exact ⟨congrArg Value.bool (by first | (rw [decide_eq_true (by omega)]; done) | (simp only [*, decide_eq_decide] <;> omega) | (rw [decide_eq_decide]; omega)), E6⟩
 refine t_field Try.underlying25 rfl Try.sizeOf23 (1) rfl rfl rfl rfl (t_load Try.isAgg23 rfl rfl rfl (B4.get rfl) (t_len Try.underlying23 rfl rfl rfl rfl (t_cmp rfl rfl rfl rfl rfl (t_pick_f rfl rfl rfl rfl (t_move rfl rfl rfl (t_splitp 15 rfl (fun g15 => ?_) (fun g15 => ?_)))))))
 ·
  refine t_skip rfl rfl rfl (t_skip rfl rfl rfl (t_skip rfl rfl rfl (t_pick_t rfl rfl rfl rfl (t_assign rfl rfl rfl (t_nil' (hK7 _ _ (c_ret (f_ret1 (v := .bool true) Try.results10 rfl ?_))))))))
  exact ⟨congrArg Value.bool (by first | (rw [decide_eq_true (by omega)]; done) | (simp only [*, decide_eq_decide] <;> omega) | (rw [decide_eq_decide]; omega)), E6⟩
 refine t_move rfl rfl rfl (t_len Try.underlying26 rfl rfl rfl rfl (t_cmp rfl rfl rfl rfl rfl (t_pick_f rfl rfl rfl rfl (t_assign rfl rfl rfl (t_nil' (hK7 _ _ (c_ret (f_ret1 (v := .bool (decide (120 < (us.length : Int)))) Try.results10 rfl ?_))))))))
 exact ⟨congrArg Value.bool (by first | (rw [decide_eq_true (by omega)]; done) | (simp only [*, decide_eq_decide] <;> omega) | (rw [decide_eq_decide]; omega)), E6⟩

set_option maxHeartbeats 1000000 in
theorem own_c (bs : List Bil) (ab : Option Addr) (bb ob cb : Nat) (hs : List Hld) (ah : Option Addr) (bh oh ch : Nat) (w0 : World) (hbs : Sl encBil 3 w0 ab bb ob bs) (hhs : Sl encHld 2 w0 ah bh oh hs) (hbl : bs.length ≤ 1000000) (hhl : hs.length ≤ 1000000) :
    CallsV Try.prog 12 [.agg #[.slice ab bs.length cb, .slice ah hs.length ch]] w0 (fun v w' => ∃ ao1 g1 c1 ao2 g2 c2, v = .agg #[.slice ao1 bs.length c1, .slice ao2 hs.length c2] ∧ Sl encBil 3 w' ao1 g1 0 bs ∧ Sl encHld 2 w' ao2 g2 0 hs ∧ (0 < bs.length → w0.heap.size ≤ g1) ∧ (0 < hs.length → w0.heap.size ≤ g2) ∧ Ext w0 w') := by
 refine f_enter (N := 12) Try.func12 rfl rfl rfl (c_seq fun K1 hK1 => (c_region (t_box (cs := [.slice ab bs.length cb, .slice ah hs.length ch]) rfl rfl rfl rfl (fun bk2 w3 ebk2 sbk2 B4 u5 => ?_))))
 have zu5 := u5.size
 refine t_alloc (cs := [.slice none 0 0, .slice none 0 0]) Try.zeroValue25 rfl rfl rfl (fun bk7 w8 ebk7 sbk7 B9 u10 => ?_)
 have zu10 := u10.size
 have E11 := ((Upd.refl (fun _ => False) w0).nx u5).nx u10
 refine t_nil' (hK1 _ _ (c_seq fun K12 hK12 => ?_))
 have B13 := (B4.kx u10)
 refine c_drawnS follows 10 8 [some (3, none), some (4, some (.pointer (some ⟨bk2, 0, none⟩))), some (5, some (.slice ab bs.length cb)), some (6, none), some (7, none), some (8, some (.pointer (some ⟨bk2, 1, none⟩))), some (9, some (.slice ah hs.length ch)), some (10, none)] [[],[],[1],[0,2],[],[],[5],[4,6,3],[3,7],[8,7,0,1,2,3,4,5,6,7,8]] (fun D ρ w => Upd (fun _ => False) w8 w ∧ (D 0 = true → ∃ bk14, ρ 0 = .slice (some ⟨bk14, 0, none⟩) 0 0 ∧ w8.heap.size ≤ bk14 ∧ Blk w bk14 93 []) ∧ (D 3 = true → ∃ aoB gB cB, ρ 3 = .slice aoB bs.length cB ∧ (Sl encBil 3 w aoB gB 0 bs ∧ (0 < bs.length → w8.heap.size ≤ gB))) ∧ (D 4 = true → ∃ bk20, ρ 4 = .slice (some ⟨bk20, 0, none⟩) 0 0 ∧ w8.heap.size ≤ bk20 ∧ Blk w bk20 90 []) ∧ (D 7 = true → ∃ aoH gH cH, ρ 7 = .slice aoH hs.length cH ∧ (Sl encHld 2 w aoH gH 0 hs ∧ (0 < hs.length → w8.heap.size ≤ gH)))) rfl rfl rfl rfl (by kernel_rfl) (by kernel_rfl) (by kernel_rfl) ⟨(Upd.drew _).to, (fun h => by cases h), (fun h => by cases h), (fun h => by cases h), (fun h => by cases h)⟩ ⟨?_, ?_, ?_, ?_, ?_, ?_, ?_, ?_, trivial⟩ ?_
 ·
  intro D ρ w26 hcD hnD hdD hW
  obtain ⟨u27, F28, F29, F30, F31⟩ := hW
  have zu27 := u27.size
  refine ⟨[], trivial, fun Lr => ?_⟩
  refine t_bslice (ps := []) (cs := []) (e := 93) rfl rfl ⟨rfl, rfl⟩ (fun w => by kernel_rfl) (fun bk33 w34 ebk33 sbk33 B35 u36 => ?_)
  have zu36 := u36.size
  exact dzn rfl ⟨(u27.next u36 (fun _ _ h => h.elim)), (fun _ => ⟨bk33, rfl, (by omega), (by show Blk w34 bk33 93 []; exact B35)⟩), (fun h => absurd ((hcD.late 3 hnD rfl).symm.trans h) (by decide)), (fun h => by obtain ⟨b, e, hge, hB⟩ := F30 h; exact ⟨b, e, hge, (hB.keep u36 (fun h => h))⟩), (fun h => absurd ((hcD.late 7 (hcD.late 3 hnD rfl) rfl).symm.trans h) (by decide))⟩
 · exact pzf Try.underlying25 rfl Try.sizeOf22 (0) rfl rfl rfl rfl rfl fun _ _ _ h => h
 · exact fun D ρ w38 hcD hnD hdD hW => ⟨_, kf_fr [4], fun Lr => t_load Try.isAgg22 rfl rfl rfl ((B13.kx hW.1).get rfl) (dz rfl hW)⟩
 ·
  intro D ρ w46 hcD hnD hdD hW
  obtain ⟨u47, F48, F49, F50, F51⟩ := hW
  have zu47 := u47.size
  obtain ⟨bk14, e53, gebk14, B54⟩ := F48 (hdD 0 rfl)
  refine ⟨[(3, .slice (some ⟨bk14, 0, none⟩) 0 0), (5, .slice ab bs.length cb)], ⟨fi 0 rfl rfl e53.symm, fi 2 rfl rfl rfl, trivial⟩, fun Lr => ?_⟩
  refine t_copyE (enc := encBil) (z := .agg #[.int .i64 0, .int .i64 0, .int .i64 0]) (bytes := 24) (k := 3) (ys := bs) Try.underlying22 (by kernel_rfl) rfl (by decide) (fun _ => rfl) (by intro x; simp [encBil, Value.oneCell']) rfl rfl rfl rfl B54 (hbs.keep (E11.nx u47) (fun _ h => h)) (by omega) (by decide) (fun aoB gB cB w55 A57 u56 gegB => ?_)
  have zu56 := u56.size
  exact dzn rfl ⟨(u47.next u56 (fun _ _ h => h.elim)), (fun h => by obtain ⟨b, e, hge, hB⟩ := F48 h; exact ⟨b, e, hge, (hB.keep u56 (fun h => h))⟩), (fun _ => ⟨aoB, gB, cB, rfl, ⟨A57.sl (fun _ => rfl), fun hp => by have h9 := gegB.2 hp; omega⟩⟩), (fun h => by obtain ⟨b, e, hge, hB⟩ := F50 h; exact ⟨b, e, hge, (hB.keep u56 (fun h => h))⟩), (fun h => absurd ((hcD.late 7 hnD rfl).symm.trans h) (by decide))⟩
 ·
  intro D ρ w59 hcD hnD hdD hW
  obtain ⟨u60, F61, F62, F63, F64⟩ := hW
  have zu60 := u60.size
  refine ⟨[], trivial, fun Lr => ?_⟩
  refine t_bslice (ps := []) (cs := []) (e := 90) rfl rfl ⟨rfl, rfl⟩ (fun w => by kernel_rfl) (fun bk66 w67 ebk66 sbk66 B68 u69 => ?_)
  have zu69 := u69.size
  exact dzn rfl ⟨(u60.next u69 (fun _ _ h => h.elim)), (fun h => by obtain ⟨b, e, hge, hB⟩ := F61 h; exact ⟨b, e, hge, (hB.keep u69 (fun h => h))⟩), (fun h => by obtain ⟨aoB, gB, cB, e, hB⟩ := F62 h; exact ⟨aoB, gB, cB, e, ⟨(hB.1.keep u69 (fun _ h => h)), hB.2⟩⟩), (fun _ => ⟨bk66, rfl, (by omega), (by show Blk w67 bk66 90 []; exact B68)⟩), (fun h => absurd ((hcD.late 7 hnD rfl).symm.trans h) (by decide))⟩
 · exact pzf Try.underlying25 rfl Try.sizeOf23 (1) rfl rfl rfl rfl rfl fun _ _ _ h => h
 · exact fun D ρ w71 hcD hnD hdD hW => ⟨_, kf_fr [8], fun Lr => t_load Try.isAgg23 rfl rfl rfl ((B13.kx hW.1).get rfl) (dz rfl hW)⟩
 ·
  intro D ρ w79 hcD hnD hdD hW
  obtain ⟨u80, F81, F82, F83, F84⟩ := hW
  have zu80 := u80.size
  obtain ⟨bk20, e86, gebk20, B87⟩ := F83 (hdD 4 rfl)
  refine ⟨[(7, .slice (some ⟨bk20, 0, none⟩) 0 0), (9, .slice ah hs.length ch)], ⟨fi 4 rfl rfl e86.symm, fi 6 rfl rfl rfl, trivial⟩, fun Lr => ?_⟩
  refine t_copyE (enc := encHld) (z := .agg #[.int .i64 0, .int .i64 0]) (bytes := 16) (k := 2) (ys := hs) Try.underlying23 (by kernel_rfl) rfl (by decide) (fun _ => rfl) (by intro x; simp [encHld, Value.oneCell']) rfl rfl rfl rfl B87 (hhs.keep (E11.nx u80) (fun _ h => h)) (by omega) (by decide) (fun aoH gH cH w88 A90 u89 gegH => ?_)
  have zu89 := u89.size
  exact dzn rfl ⟨(u80.next u89 (fun _ _ h => h.elim)), (fun h => by obtain ⟨b, e, hge, hB⟩ := F81 h; exact ⟨b, e, hge, (hB.keep u89 (fun h => h))⟩), (fun h => by obtain ⟨aoB, gB, cB, e, hB⟩ := F82 h; exact ⟨aoB, gB, cB, e, ⟨(hB.1.keep u89 (fun _ h => h)), hB.2⟩⟩), (fun h => by obtain ⟨b, e, hge, hB⟩ := F83 h; exact ⟨b, e, hge, (hB.keep u89 (fun h => h))⟩), (fun _ => ⟨aoH, gH, cH, rfl, ⟨A90.sl (fun _ => rfl), fun hp => by have h9 := gegH.2 hp; omega⟩⟩)⟩
 intro ρ w92 hW
 obtain ⟨u93, F94, F95, F96, F97⟩ := hW
 have zu93 := u93.size
 obtain ⟨bk14, e99, gebk14, B100⟩ := F94 rfl
 have B100 : Blk w92 bk14 93 [] := B100
 have lt_bk14 := B100.lt
 obtain ⟨aoB, gB, cB, e101, H102⟩ := F95 rfl
 obtain ⟨bk20, e103, gebk20, B104⟩ := F96 rfl
 have B104 : Blk w92 bk20 90 [] := B104
 have lt_bk20 := B104.lt
 obtain ⟨aoH, gH, cH, e105, H106⟩ := F97 rfl
 refine t_weak [(2, .pointer (some ⟨bk7, 0, none⟩)), (6, .slice aoB bs.length cB), (10, .slice aoH hs.length cH)] ⟨rfl, (look_nd (j := 3) rfl rfl rfl e101), (look_nd (j := 7) rfl rfl rfl e105), trivial⟩ (t_build (ps := [(0, .slice aoB bs.length cB), (1, .slice aoH hs.length cH)]) (v := .agg #[.slice aoB bs.length cB, .slice aoH hs.length cH]) rfl rfl ⟨rfl, rfl⟩ (fun w => by kernel_rfl) ?_)
 have B107 := (B9.kx u93)
 refine t_st (vs := [.slice aoB bs.length cB, .slice aoH hs.length cH]) Try.sizeOf25 rfl rfl rfl B107 rfl rfl rfl rfl (fun w108 sw108 B110 u109 => ?_)
 have zu109 := u109.size
 have B110 : Blk w108 bk7 25 [.slice aoB bs.length cB, .slice aoH hs.length cH] := B110
 refine t_nil' (hK12 _ _ (c_ret (f_ret1 (v := .agg #[.slice aoB bs.length cB, .slice aoH hs.length cH]) Try.results12 ⟨_, _, rfl, run_loadVarN (vs := [.slice aoB bs.length cB, .slice aoH hs.length cH]) Try.isAgg25 Try.sizeOf25 rfl (B110.at.sub 0 2)⟩ ?_)))
 have D112 := (H102.1.keep u109 (fun hp => by have h9 := H102.2 hp; show ¬ (gB = bk7); omega))
 have D113 := (H106.1.keep u109 (fun hp => by have h9 := H106.2 hp; show ¬ (gH = bk7); omega))
 exact ⟨aoB, gB, cB, aoH, gH, cH, rfl, D112, D113, fun hp => by have h9 := H102.2 hp; omega, fun hp => by have h9 := H106.2 hp; omega, ((E11.nx u93).next u109 (fun i hi h => by omega))⟩

theorem events_c (us : List Ev) (ae : Option Addr) (be oe ce : Nat) (w0 : World) (hu : Sl encEv 8 w0 ae be oe us) (hul : us.length ≤ 1000000) :
    CallsV Try.prog 13 [.slice ae us.length ce] w0 (fun v w' => ∃ ao1 g1 c1, v = .slice ao1 us.length c1 ∧ Sl encEv 8 w' ao1 g1 0 us ∧ (0 < us.length → w0.heap.size ≤ g1) ∧ Ext w0 w') := by
 refine f_enter (N := 6) Try.func13 rfl rfl rfl (c_seq fun K1 hK1 => (c_region (t_assign rfl rfl rfl (t_nil' (hK1 _ _ (c_seq fun K2 hK2 => (c_region (t_bslice (ps := []) (cs := []) (e := 41) rfl rfl ⟨rfl, rfl⟩ (fun w => by kernel_rfl) (fun bk3 w4 ebk3 sbk3 B5 u6 => ?_)))))))))
 have zu6 := u6.size
 have E7 := (Upd.refl (fun _ => False) w0).nx u6
 refine t_move rfl rfl rfl (t_copyE (enc := encEv) (z := .agg #[.int .i64 0, .int .i64 0, .int .i64 0, .int .i64 0, .int .i64 0, .int .i64 0, .int .i64 0, .int .i64 0]) (bytes := 64) (k := 8) (ys := us) Try.underlying26 (by kernel_rfl) rfl (by decide) (fun _ => rfl) (by intro x; simp [encEv, Value.oneCell']) rfl rfl rfl rfl B5 (hu.keep E7 (fun _ h => h)) (by omega) (by decide) (fun aoE gE cE w8 A10 u9 gegE => ?_))
 have zu9 := u9.size
 have hcE : (Sl encEv 8 w8 aoE gE 0 us ∧ (0 < us.length → w0.heap.size ≤ gE)) := ⟨A10.sl (fun _ => rfl), fun hp => by have h9 := gegE.2 hp; omega⟩
 refine t_assign rfl rfl rfl (t_nil' (hK2 _ _ (c_ret (f_ret1 (v := .slice aoE us.length cE) Try.results13 rfl ?_))))
 exact ⟨aoE, gE, cE, rfl, hcE.1, hcE.2, (E7.nx u9)⟩

def exB : List Bil := [⟨500, 1, 9⟩, ⟨300, 1, 8⟩]
def exH : List Hld := [⟨0, 600⟩, ⟨1, 600⟩, ⟨1, 100⟩]
def exU : List Ev := [⟨1, 0, 0, 0, 0, 500, 1, 0⟩, ⟨1, 0, 1, 0, 0, 100, 1, 0⟩, ⟨2, 0, 0, 0, 1, 250, 0, 0⟩, ⟨3, 0, 0, 1, 0, 200, 9, 0⟩]

theorem manifest_c  (w0 : World) :
    CallsV Try.prog 36 [] w0 (fun v w' => ∃ b1 b2, v = .agg #[.slice (some ⟨b1, 0, none⟩) 2 2, .slice (some ⟨b2, 0, none⟩) 3 3] ∧ Sl encBil 3 w' (some ⟨b1, 0, none⟩) b1 0 exB ∧ Sl encHld 2 w' (some ⟨b2, 0, none⟩) b2 0 exH ∧ w0.heap.size ≤ b1 ∧ w0.heap.size ≤ b2 ∧ Ext w0 w') := by
 refine f_enter (N := 9) Try.func36 rfl rfl rfl (c_seq fun K1 hK1 => (c_region (t_alloc (cs := [.slice none 0 0, .slice none 0 0]) Try.zeroValue25 rfl rfl rfl (fun bk2 w3 ebk2 sbk2 B4 u5 => ?_))))
 have zu5 := u5.size
 refine t_nil' (hK1 _ _ (c_seq fun K7 hK7 => (c_region (t_build (ps := [(0, .int .i64 500), (1, .int .i64 1), (2, .int .i64 9)]) (v := .agg #[.int .i64 500, .int .i64 1, .int .i64 9]) rfl rfl ⟨rfl, rfl⟩ (fun w => by kernel_rfl) (t_build (ps := [(0, .int .i64 300), (1, .int .i64 1), (2, .int .i64 8)]) (v := .agg #[.int .i64 300, .int .i64 1, .int .i64 8]) rfl rfl ⟨rfl, rfl⟩ (fun w => by kernel_rfl) (t_bslice (ps := [(0, .agg #[.int .i64 500, .int .i64 1, .int .i64 9]), (1, .agg #[.int .i64 300, .int .i64 1, .int .i64 8])]) (cs := [.int .i64 500, .int .i64 1, .int .i64 9, .int .i64 300, .int .i64 1, .int .i64 8]) (e := 93) rfl rfl ⟨rfl, rfl⟩ (fun w => by kernel_rfl) (fun bk8 w9 ebk8 sbk8 B10 u11 => ?_)))))))
 have zu11 := u11.size
 refine t_build (ps := [(1, .int .i64 600)]) (v := .agg #[.int .i64 0, .int .i64 600]) rfl rfl ⟨rfl, rfl⟩ (fun w => by kernel_rfl) (t_build (ps := [(0, .int .i64 1), (1, .int .i64 600)]) (v := .agg #[.int .i64 1, .int .i64 600]) rfl rfl ⟨rfl, rfl⟩ (fun w => by kernel_rfl) (t_build (ps := [(0, .int .i64 1), (1, .int .i64 100)]) (v := .agg #[.int .i64 1, .int .i64 100]) rfl rfl ⟨rfl, rfl⟩ (fun w => by kernel_rfl) (t_bslice (ps := [(0, .agg #[.int .i64 0, .int .i64 600]), (1, .agg #[.int .i64 1, .int .i64 600]), (2, .agg #[.int .i64 1, .int .i64 100])]) (cs := [.int .i64 0, .int .i64 600, .int .i64 1, .int .i64 600, .int .i64 1, .int .i64 100]) (e := 90) rfl rfl ⟨rfl, rfl⟩ (fun w => by kernel_rfl) (fun bk13 w14 ebk13 sbk13 B15 u16 => ?_))))
 have zu16 := u16.size
 refine t_build (ps := [(0, .slice (some ⟨bk8, 0, none⟩) 2 2), (1, .slice (some ⟨bk13, 0, none⟩) 3 3)]) (v := .agg #[.slice (some ⟨bk8, 0, none⟩) 2 2, .slice (some ⟨bk13, 0, none⟩) 3 3]) rfl rfl ⟨rfl, rfl⟩ (fun w => by kernel_rfl) ?_
 have B18 := ((B4.kx u11).kx u16)
 refine t_st (vs := [.slice (some ⟨bk8, 0, none⟩) 2 2, .slice (some ⟨bk13, 0, none⟩) 3 3]) Try.sizeOf25 rfl rfl rfl B18 rfl rfl rfl rfl (fun w19 sw19 B21 u20 => ?_)
 have zu20 := u20.size
 have B21 : Blk w19 bk2 25 [.slice (some ⟨bk8, 0, none⟩) 2 2, .slice (some ⟨bk13, 0, none⟩) 3 3] := B21
 refine t_nil' (hK7 _ _ (c_ret (f_ret1 (v := .agg #[.slice (some ⟨bk8, 0, none⟩) 2 2, .slice (some ⟨bk13, 0, none⟩) 3 3]) Try.results36 ⟨_, _, rfl, run_loadVarN (vs := [.slice (some ⟨bk8, 0, none⟩) 2 2, .slice (some ⟨bk13, 0, none⟩) 3 3]) Try.isAgg25 Try.sizeOf25 rfl (B21.at.sub 0 2)⟩ ?_)))
 have B23 := ((B10.kx u16).keep u20 (by omega))
 have B24 := (B15.keep u20 (by omega))
 exact ⟨bk8, bk13, rfl, Sl.ofBlk (enc := encBil) (xs := exB) (fun _ => rfl) B23, Sl.ofBlk (enc := encHld) (xs := exH) (fun _ => rfl) B24, by omega, by omega, (((((Upd.refl (fun _ => False) w0).nx u5).nx u11).nx u16).next u20 (fun i hi h => by omega))⟩

theorem voyage_c  (w0 : World) :
    CallsV Try.prog 37 [] w0 (fun v w' => ∃ b1, v = .slice (some ⟨b1, 0, none⟩) 4 4 ∧ Blk w' b1 41 (exU.flatMap encEv) ∧ w0.heap.size ≤ b1 ∧ Ext w0 w') := by
 refine f_enter (N := 6) Try.func37 rfl rfl rfl (c_seq fun K1 hK1 => (c_region (t_assign rfl rfl rfl (t_nil' (hK1 _ _ (c_seq fun K2 hK2 => (c_region (t_build (ps := [(0, .int .i64 1), (5, .int .i64 500), (6, .int .i64 1)]) (v := .agg #[.int .i64 1, .int .i64 0, .int .i64 0, .int .i64 0, .int .i64 0, .int .i64 500, .int .i64 1, .int .i64 0]) rfl rfl ⟨rfl, rfl⟩ (fun w => by kernel_rfl) (t_build (ps := [(0, .int .i64 1), (2, .int .i64 1), (5, .int .i64 100), (6, .int .i64 1)]) (v := .agg #[.int .i64 1, .int .i64 0, .int .i64 1, .int .i64 0, .int .i64 0, .int .i64 100, .int .i64 1, .int .i64 0]) rfl rfl ⟨rfl, rfl⟩ (fun w => by kernel_rfl) (t_build (ps := [(0, .int .i64 2), (4, .int .i64 1), (5, .int .i64 250)]) (v := .agg #[.int .i64 2, .int .i64 0, .int .i64 0, .int .i64 0, .int .i64 1, .int .i64 250, .int .i64 0, .int .i64 0]) rfl rfl ⟨rfl, rfl⟩ (fun w => by kernel_rfl) (t_build (ps := [(0, .int .i64 3), (3, .int .i64 1), (5, .int .i64 200), (6, .int .i64 9)]) (v := .agg #[.int .i64 3, .int .i64 0, .int .i64 0, .int .i64 1, .int .i64 0, .int .i64 200, .int .i64 9, .int .i64 0]) rfl rfl ⟨rfl, rfl⟩ (fun w => by kernel_rfl) (t_bslice (ps := [(0, .agg #[.int .i64 1, .int .i64 0, .int .i64 0, .int .i64 0, .int .i64 0, .int .i64 500, .int .i64 1, .int .i64 0]), (1, .agg #[.int .i64 1, .int .i64 0, .int .i64 1, .int .i64 0, .int .i64 0, .int .i64 100, .int .i64 1, .int .i64 0]), (2, .agg #[.int .i64 2, .int .i64 0, .int .i64 0, .int .i64 0, .int .i64 1, .int .i64 250, .int .i64 0, .int .i64 0]), (3, .agg #[.int .i64 3, .int .i64 0, .int .i64 0, .int .i64 1, .int .i64 0, .int .i64 200, .int .i64 9, .int .i64 0])]) (cs := [.int .i64 1, .int .i64 0, .int .i64 0, .int .i64 0, .int .i64 0, .int .i64 500, .int .i64 1, .int .i64 0, .int .i64 1, .int .i64 0, .int .i64 1, .int .i64 0, .int .i64 0, .int .i64 100, .int .i64 1, .int .i64 0, .int .i64 2, .int .i64 0, .int .i64 0, .int .i64 0, .int .i64 1, .int .i64 250, .int .i64 0, .int .i64 0, .int .i64 3, .int .i64 0, .int .i64 0, .int .i64 1, .int .i64 0, .int .i64 200, .int .i64 9, .int .i64 0]) (e := 41) rfl rfl ⟨rfl, rfl⟩ (fun w => by kernel_rfl) (fun bk3 w4 ebk3 sbk3 B5 u6 => ?_)))))))))))))
 have zu6 := u6.size
 refine t_assign rfl rfl rfl (t_nil' (hK2 _ _ (c_ret (f_ret1 (v := .slice (some ⟨bk3, 0, none⟩) 4 4) Try.results37 rfl ?_))))
 exact ⟨bk3, rfl, B5, by omega, ((Upd.refl (fun _ => False) w0).nx u6)⟩

end Go.Proofs.Ytblkphbblkncdaa
