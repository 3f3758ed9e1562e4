/-
  Contracts of the small functions of package tow. Conditions: none.
-/
import Derived.Test.YtmicjleiheoieaaMem
import Derived.Test.YtmicjleiheoieaaProg
namespace Go.Proofs.Ytmicjleiheoieaa
open Go Go.RowKit

theorem any_snoc {α : Type} [Inhabited α] {p : α → Bool} {xs : List α} {k : Nat} (hk : k < xs.length) (h : (xs.take k).any p = false) (hx : p (nth xs k) = false) : (xs.take (k + 1)).any p = false := by
  rw [take_nth hk, List.any_append, h]; simp [hx]
theorem any_hit {α : Type} [Inhabited α] {p : α → Bool} {xs : List α} {k : Nat} (hk : k < xs.length) (hx : p (nth xs k) = true) : decide ((0 : Int) ≤ (k : Int)) = xs.any p := by
  have : xs.any p = true := List.any_eq_true.2 ⟨nth xs k, nth_mem hk, hx⟩
  rw [this]; simp
theorem any_none {α : Type} {p : α → Bool} {xs : List α} {k : Nat} (hk : xs.length ≤ k) (h : (xs.take k).any p = false) : decide ((0 : Int) ≤ -1) = xs.any p := by
  rw [List.take_of_length_le hk] at h; rw [h]; decide
theorem not_any_out (lo hi : Int) (xs : List Int) : (!(xs.any fun n => decide (n < lo ∨ hi < n))) = decide (∀ n ∈ xs, lo ≤ n ∧ n ≤ hi) := by
  rw [Bool.eq_iff_iff]
  simp only [Bool.not_eq_true', List.any_eq_false, decide_eq_true_eq]
  exact ⟨fun h n hn => by have := h n hn; omega, fun h n hn => by have := h n hn; omega⟩
structure Hull where
  len : Int
  wid : Int
  mass : Int
instance : Inhabited Hull := ⟨⟨default, default, default⟩⟩
structure Bnd where
  lo : Int
  hi : Int
instance : Inhabited Bnd := ⟨⟨default, default⟩⟩
structure Row where
  long : Int
  wide : Int
  mass : Int
def encHull (h : Hull) : List Value := [.int .i64 h.len, .int .i64 h.wid, .int .i64 h.mass]
def okHull (h : Hull) : Bool := decide ((1 ≤ h.len ∧ h.len ≤ 200) ∧ (1 ≤ h.wid ∧ h.wid ≤ 30) ∧ (0 ≤ h.mass ∧ h.mass ≤ 10000))
def encI (n : Int) : List Value := [.int .i64 n]
theorem SlI.own {w : World} {b : Nat} {t : TypeId} {xs : List Int} (h : Blk w b t (xs.map (Value.int .i64))) : Sl encI 1 w (some ⟨b, 0, none⟩) b 0 xs :=
  ⟨fun _ => rfl, fun _ => h.lt, fun i hi j v hv => by
    cases j with
    | zero =>
      rw [nth_eq hi] at hv
      simp [encI] at hv
      subst hv
      exact h.get (off := 0 + i * 1 + 0) (by simp [hi])
    | succ j => simp [encI] at hv⟩

theorem own56 : Own Try.prog 56 := ⟨Try.f56, Try.func56, by kernel_rfl, by kernel_rfl⟩
theorem own57 : Own Try.prog 57 := ⟨Try.f57, Try.func57, by kernel_rfl, by kernel_rfl⟩
theorem own58 : Own Try.prog 58 := ⟨Try.f58, Try.func58, by kernel_rfl, by kernel_rfl⟩
theorem own66 : Own Try.prog 66 := ⟨Try.f66, Try.func66, by kernel_rfl, by kernel_rfl⟩
theorem own68 : Own Try.prog 68 := ⟨Try.f68, Try.func68, by kernel_rfl, by kernel_rfl⟩
theorem own75 : Own Try.prog 75 := ⟨Try.f75, Try.func75, by kernel_rfl, by kernel_rfl⟩
theorem own92 : Own Try.prog 92 := ⟨Try.f92, Try.func92, by kernel_rfl, by kernel_rfl⟩
theorem own93 : Own Try.prog 93 := ⟨Try.f93, Try.func93, by kernel_rfl, by kernel_rfl⟩
theorem own94 : Own Try.prog 94 := ⟨Try.f94, Try.func94, by kernel_rfl, by kernel_rfl⟩
theorem own95 : Own Try.prog 95 := ⟨Try.f95, Try.func95, by kernel_rfl, by kernel_rfl⟩
theorem own97 : Own Try.prog 97 := ⟨Try.f97, Try.func97, by kernel_rfl, by kernel_rfl⟩
theorem own99 : Own Try.prog 99 := ⟨Try.f99, Try.func99, by kernel_rfl, by kernel_rfl⟩
theorem own103 : Own Try.prog 103 := ⟨Try.f103, Try.func103, by kernel_rfl, by kernel_rfl⟩
theorem own112 : Own Try.prog 112 := ⟨Try.f112, Try.func112, by kernel_rfl, by kernel_rfl⟩
theorem own113 : Own Try.prog 113 := ⟨Try.f113, Try.func113, by kernel_rfl, by kernel_rfl⟩
theorem own114 : Own Try.prog 114 := ⟨Try.f114, Try.func114, by kernel_rfl, by kernel_rfl⟩
theorem own115 : Own Try.prog 115 := ⟨Try.f115, Try.func115, by kernel_rfl, by kernel_rfl⟩

abbrev out1 (lo hi n : Int) : Bool := decide (n < lo ∨ hi < n)

theorem within1_c (lo hi n : Int) (b c : Nat) (t1 t2 : TypeId) (w0 : World) (hb : Blk w0 b t1 [.int .i64 lo]) (hc : Blk w0 c t2 [.int .i64 hi]) :
    CallsV Try.prog 95 [.int .i64 n, .pointer (some ⟨b, 0, none⟩), .pointer (some ⟨c, 0, none⟩)] w0 (fun v w' => v = .bool (out1 lo hi n) ∧ Ext w0 w') := by
 have E0 := Upd.refl (fun _ => False) w0
 refine f_enter (N := 13) Try.func95 rfl rfl rfl ?_
 change WC _ _ _ _ _ _ [(0, .int .i64 n), (1, .pointer (some ⟨b, 0, none⟩)), (2, .pointer (some ⟨c, 0, none⟩))] _
 refine c_seq fun K1 hK1 => (c_region (t_assign rfl rfl rfl (t_nil' (hK1 _ _ (c_seq fun K2 hK2 => (c_region (t_move rfl rfl rfl (t_load Try.isAgg3 rfl rfl rfl (hb.get rfl) (t_cmp rfl rfl rfl rfl rfl (t_move rfl rfl rfl (t_splitp 8 rfl (fun g8 => ?_) (fun g8 => ?_))))))))))))
 ·
  refine t_skip rfl rfl rfl (t_skip rfl rfl rfl (t_skip rfl rfl rfl (t_pick_t rfl rfl rfl rfl (t_assign rfl rfl rfl (t_nil' (hK2 _ _ (c_ret (f_ret1 (v := .bool true) Try.results95 rfl ?_))))))))
  exact ⟨by simp [out1, *], E0⟩
 ·
  refine t_move rfl rfl rfl (t_load Try.isAgg3 rfl rfl rfl (hc.get rfl) (t_cmp rfl rfl rfl rfl rfl (t_pick_f rfl rfl rfl rfl (t_assign rfl rfl rfl (t_nil' (hK2 _ _ (c_ret (f_ret1 (v := .bool (decide (hi < n))) Try.results95 rfl ?_))))))))
  exact ⟨by simp [out1, *], E0⟩

theorem indexI_c (p : Int → Bool) (fv : FuncId) (caps : List Value) (xs : List Int) (ao : Option Addr) (b o cap : Nat) (w0 : World) (ho : Own Try.prog fv) (hp : ∀ x ∈ xs, ∀ w, Ext w0 w → CallsV Try.prog fv ([.int .i64 x] ++ caps) w fun v w' => v = .bool (p x) ∧ Ext w w') (hs : Sl encI 1 w0 ao b o xs) (hl : xs.length ≤ 1000000) :
    CallsV Try.prog 113 [.slice ao xs.length cap, .func (.func fv) #[] (caps).toArray] w0 (fun v w' => (∃ n : Int, v = .int .i64 n ∧ decide (0 ≤ n) = xs.any p) ∧ Ext w0 w') := by
 have E0 := Upd.refl (fun _ => False) w0
 refine f_enter (N := 19) Try.func113 rfl rfl rfl ?_
 change WC _ _ _ _ _ _ [(0, .slice ao xs.length cap), (1, .func (.func fv) #[] (caps).toArray)] _
 refine c_seq fun K1 hK1 => (c_region (t_assign rfl rfl rfl (t_nil' (hK1 _ _ (c_seq fun K2 hK2 => (c_seq fun K3 hK3 => (c_region (t_move rfl rfl rfl (t_len Try.underlying27 rfl rfl rfl rfl (t_move rfl rfl rfl (t_nil' (hK3 _ _ (c_block (c_loop (γ := Nat) (fun k => [(0, .slice ao xs.length cap), (1, .func (.func fv) #[] (caps).toArray), (7, .int .i64 (xs.length : Int)), (8, .int .i64 (k : Int))]) (fun k w => Upd (fun _ => False) w0 w ∧ (k ≤ xs.length) ∧ ((xs.take k).any p = false)) (fun k => xs.length - k) 0 ⟨rfl, rfl, rfl, rfl, trivial⟩ ⟨Upd.refl _ _, Nat.zero_le _, (by simp)⟩ ?_))))))))))))))
 intro k w5 hW K4 hK4
 obtain ⟨u6, I7, I8⟩ := hW
 have zu6 := u6.size
 have E9 := E0.next u6 (fun _ _ h => h.elim)
 have hle := I7; clear I7
 have hnot := I8; clear I8
 refine c_seq fun K10 hK10 => (c_region (t_cmp rfl rfl rfl rfl rfl (t_nil' (hK10 _ _ (c_seq fun K11 hK11 => (c_condp rfl (fun g9 => ?_) (fun g9 => ?_)))))))
 ·
  refine c_skip (hK11 _ _ (c_seq fun K12 hK12 => (c_block (c_seq fun K13 hK13 => (c_region (t_move rfl rfl rfl (t_assign rfl rfl rfl (t_nil' (hK13 _ _ (c_seq fun K14 hK14 => (c_region (t_move rfl rfl rfl (t_move rfl rfl rfl (t_move rfl rfl rfl ?_))))))))))))))
  have i15 : k < xs.length := (by omega)
  refine t_index (j := k) Try.underlying27 Try.sizeOf3 rfl rfl rfl rfl ((hs.keep E9 (fun _ h => h)).addr (by omega)) rfl i15 (t_load Try.isAgg3 rfl rfl rfl (((hs.keep E9 (fun _ h => h)).at_ k (by omega)) 0 _ rfl) (t_call (fs := []) (cs := caps) (vs := [.int .i64 (nth xs k)]) ho rfl rfl rfl rfl (hp (nth xs k) (nth_mem (by omega)) _ E9) (fun v16 w17 r19 => ?_)))
  obtain ⟨rfl, u18⟩ := r19
  have zu18 := u18.size
  have E20 := E9.next u18 (fun _ _ h => h.elim)
  refine t_nil' (hK14 _ _ (c_cond rfl (fun g16 => ?_) (fun g16 => ?_)))
  ·
   refine c_seq fun K21 hK21 => (c_region (t_move rfl rfl rfl (t_assign rfl rfl rfl (t_nil' (hK21 _ _ (c_ret (f_ret1 (v := .int .i64 (k : Int)) Try.results113 rfl ?_)))))))
   exact ⟨⟨_, rfl, any_hit (by omega) g16⟩, E20⟩
  ·
   refine c_skip (hK12 _ _ (c_region (t_ari rfl rfl rfl rfl rfl (by omega) (t_move rfl rfl rfl (t_nil' ?_)))))
   exact hK4 (k + 1) _ _ (by omega) ⟨rfl, rfl, rfl, rfl, trivial⟩ ⟨(u6.next u18 (fun _ _ h => h.elim)), (by omega), (any_snoc (by omega) hnot g16)⟩
 ·
  refine c_exit (hK2 _ _ (c_seq fun K22 hK22 => (c_region (t_assign rfl rfl rfl (t_nil' (hK22 _ _ (c_ret (f_ret1 (v := .int .i64 (-1)) Try.results113 rfl ?_))))))))
  exact ⟨⟨_, rfl, any_none (by omega) hnot⟩, E9⟩

theorem containsI_c (p : Int → Bool) (fv : FuncId) (caps : List Value) (xs : List Int) (ao : Option Addr) (b o cap : Nat) (w0 : World) (ho : Own Try.prog fv) (hp : ∀ x ∈ xs, ∀ w, Ext w0 w → CallsV Try.prog fv ([.int .i64 x] ++ caps) w fun v w' => v = .bool (p x) ∧ Ext w w') (hs : Sl encI 1 w0 ao b o xs) (hl : xs.length ≤ 1000000) :
    CallsV Try.prog 94 [.slice ao xs.length cap, .func (.func fv) #[] (caps).toArray] w0 (fun v w' => v = .bool (xs.any p) ∧ Ext w0 w') := by
 have E0 := Upd.refl (fun _ => False) w0
 refine f_enter (N := 9) Try.func94 rfl rfl rfl ?_
 change WC _ _ _ _ _ _ [(0, .slice ao xs.length cap), (1, .func (.func fv) #[] (caps).toArray)] _
 refine c_seq fun K1 hK1 => (c_region (t_assign rfl rfl rfl (t_nil' (hK1 _ _ (c_seq fun K2 hK2 => (c_region (t_move rfl rfl rfl (t_move rfl rfl rfl (t_call (vs := [.slice ao xs.length cap, .func (.func fv) #[] (caps).toArray]) own113 rfl rfl rfl rfl (indexI_c p fv caps xs ao b o cap _ ho hp hs hl) (fun v3 w4 r6 => ?_))))))))))
 obtain ⟨⟨n, rfl, hn⟩, u5⟩ := r6
 have zu5 := u5.size
 have E7 := E0.next u5 (fun _ _ h => h.elim)
 refine t_cmp rfl rfl rfl rfl rfl (t_assign rfl rfl rfl (t_nil' (hK2 _ _ (c_ret (f_ret1 (v := .bool (decide (0 ≤ n))) Try.results94 rfl ?_)))))
 exact ⟨by rw [hn], E7⟩

theorem indexH_c {α : Type} [Inhabited α] (enc : α → List Value) (hk : ∀ x, (enc x).length = 3) (p : α → Bool) (fv : FuncId) (caps : List Value) (xs : List α) (ao : Option Addr) (b o cap : Nat) (w0 : World) (ho : Own Try.prog fv) (hp : ∀ x ∈ xs, ∀ w, Ext w0 w → CallsV Try.prog fv ([.agg (enc x).toArray] ++ caps) w fun v w' => v = .bool (p x) ∧ Ext w w') (hs : Sl enc 3 w0 ao b o xs) (hl : xs.length ≤ 1000000) :
    CallsV Try.prog 112 [.slice ao xs.length cap, .func (.func fv) #[] (caps).toArray] w0 (fun v w' => (∃ n : Int, v = .int .i64 n ∧ decide (0 ≤ n) = xs.any p) ∧ Ext w0 w') := by
 have E0 := Upd.refl (fun _ => False) w0
 refine f_enter (N := 19) Try.func112 rfl rfl rfl ?_
 change WC _ _ _ _ _ _ [(0, .slice ao xs.length cap), (1, .func (.func fv) #[] (caps).toArray)] _
 refine c_seq fun K1 hK1 => (c_region (t_assign rfl rfl rfl (t_nil' (hK1 _ _ (c_seq fun K2 hK2 => (c_seq fun K3 hK3 => (c_region (t_move rfl rfl rfl (t_len Try.underlying24 rfl rfl rfl rfl (t_move rfl rfl rfl (t_nil' (hK3 _ _ (c_block (c_loop (γ := Nat) (fun k => [(0, .slice ao xs.length cap), (1, .func (.func fv) #[] (caps).toArray), (7, .int .i64 (xs.length : Int)), (8, .int .i64 (k : Int))]) (fun k w => Upd (fun _ => False) w0 w ∧ (k ≤ xs.length) ∧ ((xs.take k).any p = false)) (fun k => xs.length - k) 0 ⟨rfl, rfl, rfl, rfl, trivial⟩ ⟨Upd.refl _ _, Nat.zero_le _, (by simp)⟩ ?_))))))))))))))
 intro k w5 hW K4 hK4
 obtain ⟨u6, I7, I8⟩ := hW
 have zu6 := u6.size
 have E9 := E0.next u6 (fun _ _ h => h.elim)
 have hle := I7; clear I7
 have hnot := I8; clear I8
 refine c_seq fun K10 hK10 => (c_region (t_cmp rfl rfl rfl rfl rfl (t_nil' (hK10 _ _ (c_seq fun K11 hK11 => (c_condp rfl (fun g9 => ?_) (fun g9 => ?_)))))))
 ·
  refine c_skip (hK11 _ _ (c_seq fun K12 hK12 => (c_block (c_seq fun K13 hK13 => (c_region (t_move rfl rfl rfl (t_assign rfl rfl rfl (t_nil' (hK13 _ _ (c_seq fun K14 hK14 => (c_region (t_move rfl rfl rfl (t_move rfl rfl rfl (t_move rfl rfl rfl ?_))))))))))))))
  have i15 : k < xs.length := (by omega)
  refine t_index (j := k) Try.underlying24 Try.sizeOf23 rfl rfl rfl rfl ((hs.keep E9 (fun _ h => h)).addr (by omega)) rfl i15 (t_loadN (vs := enc (nth xs k)) Try.isAgg23 Try.sizeOf23 rfl rfl rfl ((hs.keep E9 (fun _ h => h)).at_ k (by omega)) (hk _) (t_call (fs := []) (cs := caps) (vs := [.agg (enc (nth xs k)).toArray]) ho rfl rfl rfl rfl (hp (nth xs k) (nth_mem (by omega)) _ E9) (fun v16 w17 r19 => ?_)))
  obtain ⟨rfl, u18⟩ := r19
  have zu18 := u18.size
  have E20 := E9.next u18 (fun _ _ h => h.elim)
  refine t_nil' (hK14 _ _ (c_cond rfl (fun g16 => ?_) (fun g16 => ?_)))
  ·
   refine c_seq fun K21 hK21 => (c_region (t_move rfl rfl rfl (t_assign rfl rfl rfl (t_nil' (hK21 _ _ (c_ret (f_ret1 (v := .int .i64 (k : Int)) Try.results112 rfl ?_)))))))
   exact ⟨⟨_, rfl, any_hit (by omega) g16⟩, E20⟩
  ·
   refine c_skip (hK12 _ _ (c_region (t_ari rfl rfl rfl rfl rfl (by omega) (t_move rfl rfl rfl (t_nil' ?_)))))
   exact hK4 (k + 1) _ _ (by omega) ⟨rfl, rfl, rfl, rfl, trivial⟩ ⟨(u6.next u18 (fun _ _ h => h.elim)), (by omega), (any_snoc (by omega) hnot g16)⟩
 ·
  refine c_exit (hK2 _ _ (c_seq fun K22 hK22 => (c_region (t_assign rfl rfl rfl (t_nil' (hK22 _ _ (c_ret (f_ret1 (v := .int .i64 (-1)) Try.results112 rfl ?_))))))))
  exact ⟨⟨_, rfl, any_none (by omega) hnot⟩, E9⟩

theorem containsH_c {α : Type} [Inhabited α] (enc : α → List Value) (hk : ∀ x, (enc x).length = 3) (p : α → Bool) (fv : FuncId) (caps : List Value) (xs : List α) (ao : Option Addr) (b o cap : Nat) (w0 : World) (ho : Own Try.prog fv) (hp : ∀ x ∈ xs, ∀ w, Ext w0 w → CallsV Try.prog fv ([.agg (enc x).toArray] ++ caps) w fun v w' => v = .bool (p x) ∧ Ext w w') (hs : Sl enc 3 w0 ao b o xs) (hl : xs.length ≤ 1000000) :
    CallsV Try.prog 92 [.slice ao xs.length cap, .func (.func fv) #[] (caps).toArray] w0 (fun v w' => v = .bool (xs.any p) ∧ Ext w0 w') := by
 have E0 := Upd.refl (fun _ => False) w0
 refine f_enter (N := 9) Try.func92 rfl rfl rfl ?_
 change WC _ _ _ _ _ _ [(0, .slice ao xs.length cap), (1, .func (.func fv) #[] (caps).toArray)] _
 refine c_seq fun K1 hK1 => (c_region (t_assign rfl rfl rfl (t_nil' (hK1 _ _ (c_seq fun K2 hK2 => (c_region (t_move rfl rfl rfl (t_move rfl rfl rfl (t_call (vs := [.slice ao xs.length cap, .func (.func fv) #[] (caps).toArray]) own112 rfl rfl rfl rfl (indexH_c enc hk p fv caps xs ao b o cap _ ho hp hs hl) (fun v3 w4 r6 => ?_))))))))))
 obtain ⟨⟨n, rfl, hn⟩, u5⟩ := r6
 have zu5 := u5.size
 have E7 := E0.next u5 (fun _ _ h => h.elim)
 refine t_cmp rfl rfl rfl rfl rfl (t_assign rfl rfl rfl (t_nil' (hK2 _ _ (c_ret (f_ret1 (v := .bool (decide (0 ≤ n))) Try.results92 rfl ?_)))))
 exact ⟨by rw [hn], E7⟩

theorem indexV_c {α : Type} [Inhabited α] (enc : α → List Value) (hk : ∀ x, (enc x).length = 5) (p : α → Bool) (fv : FuncId) (caps : List Value) (xs : List α) (ao : Option Addr) (b o cap : Nat) (w0 : World) (ho : Own Try.prog fv) (hp : ∀ x ∈ xs, ∀ w, Ext w0 w → CallsV Try.prog fv ([.agg (enc x).toArray] ++ caps) w fun v w' => v = .bool (p x) ∧ Ext w w') (hs : Sl enc 5 w0 ao b o xs) (hl : xs.length ≤ 1000000) :
    CallsV Try.prog 114 [.slice ao xs.length cap, .func (.func fv) #[] (caps).toArray] w0 (fun v w' => (∃ n : Int, v = .int .i64 n ∧ decide (0 ≤ n) = xs.any p) ∧ Ext w0 w') := by
 have E0 := Upd.refl (fun _ => False) w0
 refine f_enter (N := 19) Try.func114 rfl rfl rfl ?_
 change WC _ _ _ _ _ _ [(0, .slice ao xs.length cap), (1, .func (.func fv) #[] (caps).toArray)] _
 refine c_seq fun K1 hK1 => (c_region (t_assign rfl rfl rfl (t_nil' (hK1 _ _ (c_seq fun K2 hK2 => (c_seq fun K3 hK3 => (c_region (t_move rfl rfl rfl (t_len Try.underlying34 rfl rfl rfl rfl (t_move rfl rfl rfl (t_nil' (hK3 _ _ (c_block (c_loop (γ := Nat) (fun k => [(0, .slice ao xs.length cap), (1, .func (.func fv) #[] (caps).toArray), (7, .int .i64 (xs.length : Int)), (8, .int .i64 (k : Int))]) (fun k w => Upd (fun _ => False) w0 w ∧ (k ≤ xs.length) ∧ ((xs.take k).any p = false)) (fun k => xs.length - k) 0 ⟨rfl, rfl, rfl, rfl, trivial⟩ ⟨Upd.refl _ _, Nat.zero_le _, (by simp)⟩ ?_))))))))))))))
 intro k w5 hW K4 hK4
 obtain ⟨u6, I7, I8⟩ := hW
 have zu6 := u6.size
 have E9 := E0.next u6 (fun _ _ h => h.elim)
 have hle := I7; clear I7
 have hnot := I8; clear I8
 refine c_seq fun K10 hK10 => (c_region (t_cmp rfl rfl rfl rfl rfl (t_nil' (hK10 _ _ (c_seq fun K11 hK11 => (c_condp rfl (fun g9 => ?_) (fun g9 => ?_)))))))
 ·
  refine c_skip (hK11 _ _ (c_seq fun K12 hK12 => (c_block (c_seq fun K13 hK13 => (c_region (t_move rfl rfl rfl (t_assign rfl rfl rfl (t_nil' (hK13 _ _ (c_seq fun K14 hK14 => (c_region (t_move rfl rfl rfl (t_move rfl rfl rfl (t_move rfl rfl rfl ?_))))))))))))))
  have i15 : k < xs.length := (by omega)
  refine t_index (j := k) Try.underlying34 Try.sizeOf48 rfl rfl rfl rfl ((hs.keep E9 (fun _ h => h)).addr (by omega)) rfl i15 (t_loadN (vs := enc (nth xs k)) Try.isAgg48 Try.sizeOf48 rfl rfl rfl ((hs.keep E9 (fun _ h => h)).at_ k (by omega)) (hk _) (t_call (fs := []) (cs := caps) (vs := [.agg (enc (nth xs k)).toArray]) ho rfl rfl rfl rfl (hp (nth xs k) (nth_mem (by omega)) _ E9) (fun v16 w17 r19 => ?_)))
  obtain ⟨rfl, u18⟩ := r19
  have zu18 := u18.size
  have E20 := E9.next u18 (fun _ _ h => h.elim)
  refine t_nil' (hK14 _ _ (c_cond rfl (fun g16 => ?_) (fun g16 => ?_)))
  ·
   refine c_seq fun K21 hK21 => (c_region (t_move rfl rfl rfl (t_assign rfl rfl rfl (t_nil' (hK21 _ _ (c_ret (f_ret1 (v := .int .i64 (k : Int)) Try.results114 rfl ?_)))))))
   exact ⟨⟨_, rfl, any_hit (by omega) g16⟩, E20⟩
  ·
   refine c_skip (hK12 _ _ (c_region (t_ari rfl rfl rfl rfl rfl (by omega) (t_move rfl rfl rfl (t_nil' ?_)))))
   exact hK4 (k + 1) _ _ (by omega) ⟨rfl, rfl, rfl, rfl, trivial⟩ ⟨(u6.next u18 (fun _ _ h => h.elim)), (by omega), (any_snoc (by omega) hnot g16)⟩
 ·
  refine c_exit (hK2 _ _ (c_seq fun K22 hK22 => (c_region (t_assign rfl rfl rfl (t_nil' (hK22 _ _ (c_ret (f_ret1 (v := .int .i64 (-1)) Try.results114 rfl ?_))))))))
  exact ⟨⟨_, rfl, any_none (by omega) hnot⟩, E9⟩

theorem containsV_c {α : Type} [Inhabited α] (enc : α → List Value) (hk : ∀ x, (enc x).length = 5) (p : α → Bool) (fv : FuncId) (caps : List Value) (xs : List α) (ao : Option Addr) (b o cap : Nat) (w0 : World) (ho : Own Try.prog fv) (hp : ∀ x ∈ xs, ∀ w, Ext w0 w → CallsV Try.prog fv ([.agg (enc x).toArray] ++ caps) w fun v w' => v = .bool (p x) ∧ Ext w w') (hs : Sl enc 5 w0 ao b o xs) (hl : xs.length ≤ 1000000) :
    CallsV Try.prog 97 [.slice ao xs.length cap, .func (.func fv) #[] (caps).toArray] w0 (fun v w' => v = .bool (xs.any p) ∧ Ext w0 w') := by
 have E0 := Upd.refl (fun _ => False) w0
 refine f_enter (N := 9) Try.func97 rfl rfl rfl ?_
 change WC _ _ _ _ _ _ [(0, .slice ao xs.length cap), (1, .func (.func fv) #[] (caps).toArray)] _
 refine c_seq fun K1 hK1 => (c_region (t_assign rfl rfl rfl (t_nil' (hK1 _ _ (c_seq fun K2 hK2 => (c_region (t_move rfl rfl rfl (t_move rfl rfl rfl (t_call (vs := [.slice ao xs.length cap, .func (.func fv) #[] (caps).toArray]) own114 rfl rfl rfl rfl (indexV_c enc hk p fv caps xs ao b o cap _ ho hp hs hl) (fun v3 w4 r6 => ?_))))))))))
 obtain ⟨⟨n, rfl, hn⟩, u5⟩ := r6
 have zu5 := u5.size
 have E7 := E0.next u5 (fun _ _ h => h.elim)
 refine t_cmp rfl rfl rfl rfl rfl (t_assign rfl rfl rfl (t_nil' (hK2 _ _ (c_ret (f_ret1 (v := .bool (decide (0 ≤ n))) Try.results97 rfl ?_)))))
 exact ⟨by rw [hn], E7⟩

theorem indexR_c {α : Type} [Inhabited α] (enc : α → List Value) (hk : ∀ x, (enc x).length = 4) (p : α → Bool) (fv : FuncId) (caps : List Value) (xs : List α) (ao : Option Addr) (b o cap : Nat) (w0 : World) (ho : Own Try.prog fv) (hp : ∀ x ∈ xs, ∀ w, Ext w0 w → CallsV Try.prog fv ([.agg (enc x).toArray] ++ caps) w fun v w' => v = .bool (p x) ∧ Ext w w') (hs : Sl enc 4 w0 ao b o xs) (hl : xs.length ≤ 1000000) :
    CallsV Try.prog 115 [.slice ao xs.length cap, .func (.func fv) #[] (caps).toArray] w0 (fun v w' => (∃ n : Int, v = .int .i64 n ∧ decide (0 ≤ n) = xs.any p) ∧ Ext w0 w') := by
 have E0 := Upd.refl (fun _ => False) w0
 refine f_enter (N := 19) Try.func115 rfl rfl rfl ?_
 change WC _ _ _ _ _ _ [(0, .slice ao xs.length cap), (1, .func (.func fv) #[] (caps).toArray)] _
 refine c_seq fun K1 hK1 => (c_region (t_assign rfl rfl rfl (t_nil' (hK1 _ _ (c_seq fun K2 hK2 => (c_seq fun K3 hK3 => (c_region (t_move rfl rfl rfl (t_len Try.underlying35 rfl rfl rfl rfl (t_move rfl rfl rfl (t_nil' (hK3 _ _ (c_block (c_loop (γ := Nat) (fun k => [(0, .slice ao xs.length cap), (1, .func (.func fv) #[] (caps).toArray), (7, .int .i64 (xs.length : Int)), (8, .int .i64 (k : Int))]) (fun k w => Upd (fun _ => False) w0 w ∧ (k ≤ xs.length) ∧ ((xs.take k).any p = false)) (fun k => xs.length - k) 0 ⟨rfl, rfl, rfl, rfl, trivial⟩ ⟨Upd.refl _ _, Nat.zero_le _, (by simp)⟩ ?_))))))))))))))
 intro k w5 hW K4 hK4
 obtain ⟨u6, I7, I8⟩ := hW
 have zu6 := u6.size
 have E9 := E0.next u6 (fun _ _ h => h.elim)
 have hle := I7; clear I7
 have hnot := I8; clear I8
 refine c_seq fun K10 hK10 => (c_region (t_cmp rfl rfl rfl rfl rfl (t_nil' (hK10 _ _ (c_seq fun K11 hK11 => (c_condp rfl (fun g9 => ?_) (fun g9 => ?_)))))))
 ·
  refine c_skip (hK11 _ _ (c_seq fun K12 hK12 => (c_block (c_seq fun K13 hK13 => (c_region (t_move rfl rfl rfl (t_assign rfl rfl rfl (t_nil' (hK13 _ _ (c_seq fun K14 hK14 => (c_region (t_move rfl rfl rfl (t_move rfl rfl rfl (t_move rfl rfl rfl ?_))))))))))))))
  have i15 : k < xs.length := (by omega)
  refine t_index (j := k) Try.underlying35 Try.sizeOf72 rfl rfl rfl rfl ((hs.keep E9 (fun _ h => h)).addr (by omega)) rfl i15 (t_loadN (vs := enc (nth xs k)) Try.isAgg72 Try.sizeOf72 rfl rfl rfl ((hs.keep E9 (fun _ h => h)).at_ k (by omega)) (hk _) (t_call (fs := []) (cs := caps) (vs := [.agg (enc (nth xs k)).toArray]) ho rfl rfl rfl rfl (hp (nth xs k) (nth_mem (by omega)) _ E9) (fun v16 w17 r19 => ?_)))
  obtain ⟨rfl, u18⟩ := r19
  have zu18 := u18.size
  have E20 := E9.next u18 (fun _ _ h => h.elim)
  refine t_nil' (hK14 _ _ (c_cond rfl (fun g16 => ?_) (fun g16 => ?_)))
  ·
   refine c_seq fun K21 hK21 => (c_region (t_move rfl rfl rfl (t_assign rfl rfl rfl (t_nil' (hK21 _ _ (c_ret (f_ret1 (v := .int .i64 (k : Int)) Try.results115 rfl ?_)))))))
   exact ⟨⟨_, rfl, any_hit (by omega) g16⟩, E20⟩
  ·
   refine c_skip (hK12 _ _ (c_region (t_ari rfl rfl rfl rfl rfl (by omega) (t_move rfl rfl rfl (t_nil' ?_)))))
   exact hK4 (k + 1) _ _ (by omega) ⟨rfl, rfl, rfl, rfl, trivial⟩ ⟨(u6.next u18 (fun _ _ h => h.elim)), (by omega), (any_snoc (by omega) hnot g16)⟩
 ·
  refine c_exit (hK2 _ _ (c_seq fun K22 hK22 => (c_region (t_assign rfl rfl rfl (t_nil' (hK22 _ _ (c_ret (f_ret1 (v := .int .i64 (-1)) Try.results115 rfl ?_))))))))
  exact ⟨⟨_, rfl, any_none (by omega) hnot⟩, E9⟩

theorem containsR_c {α : Type} [Inhabited α] (enc : α → List Value) (hk : ∀ x, (enc x).length = 4) (p : α → Bool) (fv : FuncId) (caps : List Value) (xs : List α) (ao : Option Addr) (b o cap : Nat) (w0 : World) (ho : Own Try.prog fv) (hp : ∀ x ∈ xs, ∀ w, Ext w0 w → CallsV Try.prog fv ([.agg (enc x).toArray] ++ caps) w fun v w' => v = .bool (p x) ∧ Ext w w') (hs : Sl enc 4 w0 ao b o xs) (hl : xs.length ≤ 1000000) :
    CallsV Try.prog 99 [.slice ao xs.length cap, .func (.func fv) #[] (caps).toArray] w0 (fun v w' => v = .bool (xs.any p) ∧ Ext w0 w') := by
 have E0 := Upd.refl (fun _ => False) w0
 refine f_enter (N := 9) Try.func99 rfl rfl rfl ?_
 change WC _ _ _ _ _ _ [(0, .slice ao xs.length cap), (1, .func (.func fv) #[] (caps).toArray)] _
 refine c_seq fun K1 hK1 => (c_region (t_assign rfl rfl rfl (t_nil' (hK1 _ _ (c_seq fun K2 hK2 => (c_region (t_move rfl rfl rfl (t_move rfl rfl rfl (t_call (vs := [.slice ao xs.length cap, .func (.func fv) #[] (caps).toArray]) own115 rfl rfl rfl rfl (indexR_c enc hk p fv caps xs ao b o cap _ ho hp hs hl) (fun v3 w4 r6 => ?_))))))))))
 obtain ⟨⟨n, rfl, hn⟩, u5⟩ := r6
 have zu5 := u5.size
 have E7 := E0.next u5 (fun _ _ h => h.elim)
 refine t_cmp rfl rfl rfl rfl rfl (t_assign rfl rfl rfl (t_nil' (hK2 _ _ (c_ret (f_ret1 (v := .bool (decide (0 ≤ n))) Try.results99 rfl ?_)))))
 exact ⟨by rw [hn], E7⟩

theorem within_c (lo hi : Int) (xs : List Int) (ao : Option Addr) (b o cap : Nat) (w0 : World) (hs : Sl encI 1 w0 ao b o xs) (hl : xs.length ≤ 1000000) :
    CallsV Try.prog 58 [.int .i64 lo, .int .i64 hi, .slice ao xs.length cap] w0 (fun v w' => v = .bool (decide (∀ n ∈ xs, lo ≤ n ∧ n ≤ hi)) ∧ Ext w0 w') := by
 have E0 := Upd.refl (fun _ => False) w0
 refine f_enter (N := 11) Try.func58 rfl rfl rfl ?_
 change WC _ _ _ _ _ _ [(0, .int .i64 lo), (1, .int .i64 hi), (2, .slice ao xs.length cap)] _
 refine c_seq fun K1 hK1 => (c_region (t_box (cs := [.int .i64 lo]) rfl rfl rfl rfl (fun bk2 w3 ebk2 sbk2 B4 u5 => ?_)))
 have zu5 := u5.size
 have E6 := E0.next u5 (fun _ _ h => h.elim)
 refine t_box (cs := [.int .i64 hi]) rfl rfl rfl rfl (fun bk7 w8 ebk7 sbk7 B9 u10 => ?_)
 have zu10 := u10.size
 have E11 := E6.next u10 (fun _ _ h => h.elim)
 refine t_assign rfl rfl rfl (t_nil' (hK1 _ _ (c_seq fun K12 hK12 => (c_region (t_move rfl rfl rfl (t_mkfunc (vs := []) (us := [.pointer (some ⟨bk2, 0, none⟩), .pointer (some ⟨bk7, 0, none⟩)]) rfl rfl rfl rfl ?_))))))
 have B13 := (B4.keep u10 (fun h => h))
 refine t_call (vs := [.slice ao xs.length cap, .func (.func 95) #[] #[.pointer (some ⟨bk2, 0, none⟩), .pointer (some ⟨bk7, 0, none⟩)]]) own94 rfl rfl rfl rfl (containsI_c (out1 lo hi) 95 [.pointer (some ⟨bk2, 0, none⟩), .pointer (some ⟨bk7, 0, none⟩)] xs ao b o cap _ own95 (fun x _ w u => within1_c lo hi x bk2 bk7 _ _ w (B13.keep u (fun h => h)) (B9.keep u (fun h => h))) (hs.keep E11 (fun _ h => h)) hl) (fun v14 w15 r17 => ?_)
 obtain ⟨rfl, u16⟩ := r17
 have zu16 := u16.size
 have E18 := E11.next u16 (fun _ _ h => h.elim)
 refine t_not rfl rfl rfl (t_assign rfl rfl rfl (t_nil' (hK12 _ _ (c_ret (f_ret1 (v := .bool (!(xs.any (out1 lo hi)))) Try.results58 rfl ?_)))))
 exact ⟨by rw [not_any_out], E18⟩


theorem within1_v (lo hi n : Int) (b : Nat) (t : TypeId) (w : World) (h : Blk w b t [.int .i64 n]) :
    CallsV Try.prog 58 [.int .i64 lo, .int .i64 hi, .slice (some ⟨b, 0, none⟩) 1 1] w (fun v w' => v = .bool (decide (lo ≤ n ∧ n ≤ hi)) ∧ Ext w w') :=
  (within_c lo hi [n] _ b 0 1 w (SlI.own (xs := [n]) h) (by simp)).mono fun v w' ⟨e, u⟩ => ⟨by rw [e]; simp, u⟩
theorem within2_v (lo hi m n : Int) (b : Nat) (t : TypeId) (w : World) (h : Blk w b t [.int .i64 m, .int .i64 n]) :
    CallsV Try.prog 58 [.int .i64 lo, .int .i64 hi, .slice (some ⟨b, 0, none⟩) 2 2] w (fun v w' => v = .bool (decide ((lo ≤ m ∧ m ≤ hi) ∧ (lo ≤ n ∧ n ≤ hi))) ∧ Ext w w') :=
  (within_c lo hi [m, n] _ b 0 2 w (SlI.own (xs := [m, n]) h) (by simp)).mono fun v w' ⟨e, u⟩ => ⟨by rw [e]; simp, u⟩

theorem isHull_c (h : Hull) (w0 : World) :
    CallsV Try.prog 56 [.agg #[.int .i64 h.len, .int .i64 h.wid, .int .i64 h.mass]] w0 (fun v w' => v = .bool (okHull h) ∧ Ext w0 w') := by
 have E0 := Upd.refl (fun _ => False) w0
 refine f_enter (N := 19) Try.func56 rfl rfl rfl ?_
 change WC _ _ _ _ _ _ [(0, .agg #[.int .i64 h.len, .int .i64 h.wid, .int .i64 h.mass])] _
 refine c_seq fun K1 hK1 => (c_region (t_box (cs := [.int .i64 h.len, .int .i64 h.wid, .int .i64 h.mass]) rfl rfl rfl rfl (fun bk2 w3 ebk2 sbk2 B4 u5 => ?_)))
 have zu5 := u5.size
 have E6 := E0.next u5 (fun _ _ h => h.elim)
 refine t_assign rfl rfl rfl (t_nil' (hK1 _ _ (c_seq fun K7 hK7 => (c_region (t_field Try.underlying23 rfl Try.sizeOf3 (0) rfl rfl rfl rfl (t_load Try.isAgg3 rfl rfl rfl (B4.get rfl) (t_bslice (ps := [(0, .int .i64 h.len)]) (cs := [.int .i64 h.len]) (e := 3) rfl rfl ⟨rfl, rfl⟩ (fun w => by kernel_rfl) (fun bk8 w9 ebk8 sbk8 B10 u11 => ?_))))))))
 have zu11 := u11.size
 have E12 := E6.next u11 (fun _ _ h => h.elim)
 refine t_call (vs := [.int .i64 1, .int .i64 200, .slice (some ⟨bk8, 0, none⟩) 1 1]) own58 rfl rfl rfl rfl (within1_v 1 200 h.len _ _ _ B10) (fun v13 w14 r16 => ?_)
 obtain ⟨rfl, u15⟩ := r16
 have zu15 := u15.size
 have E17 := E12.next u15 (fun _ _ h => h.elim)
 refine t_move rfl rfl rfl (t_splitp 7 rfl (fun g7 => ?_) (fun g7 => ?_))
 ·
  refine t_field Try.underlying23 rfl Try.sizeOf3 (1) rfl rfl rfl rfl ?_
  have B18 := ((B4.keep u11 (fun h => h)).keep u15 (fun h => h))
  refine t_load Try.isAgg3 rfl rfl rfl (B18.get rfl) (t_bslice (ps := [(0, .int .i64 h.wid)]) (cs := [.int .i64 h.wid]) (e := 3) rfl rfl ⟨rfl, rfl⟩ (fun w => by kernel_rfl) (fun bk19 w20 ebk19 sbk19 B21 u22 => ?_))
  have zu22 := u22.size
  have E23 := E17.next u22 (fun _ _ h => h.elim)
  refine t_call (vs := [.int .i64 1, .int .i64 30, .slice (some ⟨bk19, 0, none⟩) 1 1]) own58 rfl rfl rfl rfl (within1_v 1 30 h.wid _ _ _ B21) (fun v24 w25 r27 => ?_)
  obtain ⟨rfl, u26⟩ := r27
  have zu26 := u26.size
  have E28 := E23.next u26 (fun _ _ h => h.elim)
  refine t_pick_t rfl rfl rfl rfl (t_move rfl rfl rfl (t_splitp 13 rfl (fun g13 => ?_) (fun g13 => ?_)))
  ·
   refine t_field Try.underlying23 rfl Try.sizeOf3 (2) rfl rfl rfl rfl ?_
   have B29 := ((B18.keep u22 (fun h => h)).keep u26 (fun h => h))
   refine t_load Try.isAgg3 rfl rfl rfl (B29.get rfl) (t_bslice (ps := [(0, .int .i64 h.mass)]) (cs := [.int .i64 h.mass]) (e := 3) rfl rfl ⟨rfl, rfl⟩ (fun w => by kernel_rfl) (fun bk30 w31 ebk30 sbk30 B32 u33 => ?_))
   have zu33 := u33.size
   have E34 := E28.next u33 (fun _ _ h => h.elim)
   refine t_call (vs := [.int .i64 0, .int .i64 10000, .slice (some ⟨bk30, 0, none⟩) 1 1]) own58 rfl rfl rfl rfl (within1_v 0 10000 h.mass _ _ _ B32) (fun v35 w36 r38 => ?_)
   obtain ⟨rfl, u37⟩ := r38
   have zu37 := u37.size
   have E39 := E34.next u37 (fun _ _ h => h.elim)
   refine t_pick_t rfl rfl rfl rfl (t_assign rfl rfl rfl (t_nil' (hK7 _ _ (c_ret (f_ret1 (v := .bool (decide (0 ≤ h.mass ∧ h.mass ≤ 10000))) Try.results56 rfl ?_)))))
   exact ⟨by simp [okHull, *], E39⟩
  ·
   refine t_skip rfl rfl rfl (t_skip rfl rfl rfl (t_skip rfl rfl rfl (t_skip rfl rfl rfl (t_pick_f rfl rfl rfl rfl (t_assign rfl rfl rfl (t_nil' (hK7 _ _ (c_ret (f_ret1 (v := .bool false) Try.results56 rfl ?_)))))))))
   exact ⟨by simp [okHull, *], E28⟩
 ·
  refine t_skip rfl rfl rfl (t_skip rfl rfl rfl (t_skip rfl rfl rfl (t_skip rfl rfl rfl (t_pick_f rfl rfl rfl rfl (t_move rfl rfl rfl (t_skip rfl rfl rfl (t_skip rfl rfl rfl (t_skip rfl rfl rfl (t_skip rfl rfl rfl (t_pick_f rfl rfl rfl rfl (t_assign rfl rfl rfl (t_nil' (hK7 _ _ (c_ret (f_ret1 (v := .bool false) Try.results56 rfl ?_)))))))))))))))
  exact ⟨by simp [okHull, *], E17⟩

theorem badHull1_c (h : Hull) (w0 : World) :
    CallsV Try.prog 93 [.agg #[.int .i64 h.len, .int .i64 h.wid, .int .i64 h.mass]] w0 (fun v w' => v = .bool (!okHull h) ∧ Ext w0 w') := by
 have E0 := Upd.refl (fun _ => False) w0
 refine f_enter (N := 6) Try.func93 rfl rfl rfl ?_
 change WC _ _ _ _ _ _ [(0, .agg #[.int .i64 h.len, .int .i64 h.wid, .int .i64 h.mass])] _
 refine c_seq fun K1 hK1 => (c_region (t_box (cs := [.int .i64 h.len, .int .i64 h.wid, .int .i64 h.mass]) rfl rfl rfl rfl (fun bk2 w3 ebk2 sbk2 B4 u5 => ?_)))
 have zu5 := u5.size
 have E6 := E0.next u5 (fun _ _ h => h.elim)
 refine t_assign rfl rfl rfl (t_nil' (hK1 _ _ (c_seq fun K7 hK7 => (c_region (t_loadN (vs := [.int .i64 h.len, .int .i64 h.wid, .int .i64 h.mass]) Try.isAgg23 Try.sizeOf23 rfl rfl rfl (B4.at.sub 0 3) rfl (t_call (vs := [.agg #[.int .i64 h.len, .int .i64 h.wid, .int .i64 h.mass]]) own56 rfl rfl rfl rfl (isHull_c h _) (fun v8 w9 r11 => ?_)))))))
 obtain ⟨rfl, u10⟩ := r11
 have zu10 := u10.size
 have E12 := E6.next u10 (fun _ _ h => h.elim)
 refine t_not rfl rfl rfl (t_assign rfl rfl rfl (t_nil' (hK7 _ _ (c_ret (f_ret1 (v := .bool (!(okHull h))) Try.results93 rfl ?_)))))
 exact ⟨rfl, E12⟩

theorem badHull_c (xs : List Hull) (ao : Option Addr) (b o cap : Nat) (w0 : World) (hs : Sl encHull 3 w0 ao b o xs) (hl : xs.length ≤ 1000000) :
    CallsV Try.prog 57 [.slice ao xs.length cap] w0 (fun v w' => v = .bool (xs.any fun h => !okHull h) ∧ Ext w0 w') := by
 have E0 := Upd.refl (fun _ => False) w0
 refine f_enter (N := 5) Try.func57 rfl rfl rfl ?_
 change WC _ _ _ _ _ _ [(0, .slice ao xs.length cap)] _
 refine c_seq fun K1 hK1 => (c_region (t_assign rfl rfl rfl (t_nil' (hK1 _ _ (c_seq fun K2 hK2 => (c_region (t_move rfl rfl rfl (t_call (vs := [.slice ao xs.length cap, .func (.func 93) #[] #[]]) own92 rfl rfl rfl rfl (containsH_c encHull (fun _ => rfl) (fun h => !okHull h) 93 [] xs ao b o cap _ own93 (fun x _ w u => badHull1_c x w) hs hl) (fun v3 w4 r6 => ?_)))))))))
 obtain ⟨rfl, u5⟩ := r6
 have zu5 := u5.size
 have E7 := E0.next u5 (fun _ _ h => h.elim)
 refine t_assign rfl rfl rfl (t_nil' (hK2 _ _ (c_ret (f_ret1 (v := .bool (xs.any fun h => !okHull h)) Try.results57 rfl ?_))))
 exact ⟨rfl, E7⟩

theorem isValid_c (lo hi a b : Int) (w0 : World) :
    CallsV Try.prog 66 [.int .i64 lo, .int .i64 hi, .agg #[.int .i64 a, .int .i64 b]] w0 (fun v w' => v = .bool (decide (a ≤ b ∧ (lo ≤ a ∧ a ≤ hi) ∧ (lo ≤ b ∧ b ≤ hi))) ∧ Ext w0 w') := by
 have E0 := Upd.refl (fun _ => False) w0
 refine f_enter (N := 22) Try.func66 rfl rfl rfl ?_
 change WC _ _ _ _ _ _ [(0, .int .i64 lo), (1, .int .i64 hi), (2, .agg #[.int .i64 a, .int .i64 b])] _
 refine c_seq fun K1 hK1 => (c_region (t_box (cs := [.int .i64 a, .int .i64 b]) rfl rfl rfl rfl (fun bk2 w3 ebk2 sbk2 B4 u5 => ?_)))
 have zu5 := u5.size
 have E6 := E0.next u5 (fun _ _ h => h.elim)
 refine t_assign rfl rfl rfl (t_nil' (hK1 _ _ (c_seq fun K7 hK7 => (c_region (t_field Try.underlying45 rfl Try.sizeOf3 (0) rfl rfl rfl rfl (t_load Try.isAgg3 rfl rfl rfl (B4.get rfl) (t_field Try.underlying45 rfl Try.sizeOf3 (1) rfl rfl rfl rfl (t_load Try.isAgg3 rfl rfl rfl (B4.get rfl) (t_cmp rfl rfl rfl rfl rfl (t_move rfl rfl rfl (t_splitp 12 rfl (fun g12 => ?_) (fun g12 => ?_))))))))))))
 ·
  refine t_move rfl rfl rfl (t_move rfl rfl rfl (t_field Try.underlying45 rfl Try.sizeOf3 (0) rfl rfl rfl rfl (t_load Try.isAgg3 rfl rfl rfl (B4.get rfl) (t_field Try.underlying45 rfl Try.sizeOf3 (1) rfl rfl rfl rfl (t_load Try.isAgg3 rfl rfl rfl (B4.get rfl) (t_bslice (ps := [(0, .int .i64 a), (1, .int .i64 b)]) (cs := [.int .i64 a, .int .i64 b]) (e := 3) rfl rfl ⟨rfl, rfl⟩ (fun w => by kernel_rfl) (fun bk8 w9 ebk8 sbk8 B10 u11 => ?_)))))))
  have zu11 := u11.size
  have E12 := E6.next u11 (fun _ _ h => h.elim)
  refine t_call (vs := [.int .i64 lo, .int .i64 hi, .slice (some ⟨bk8, 0, none⟩) 2 2]) own58 rfl rfl rfl rfl (within2_v lo hi a b _ _ _ B10) (fun v13 w14 r16 => ?_)
  obtain ⟨rfl, u15⟩ := r16
  have zu15 := u15.size
  have E17 := E12.next u15 (fun _ _ h => h.elim)
  refine t_pick_t rfl rfl rfl rfl (t_assign rfl rfl rfl (t_nil' (hK7 _ _ (c_ret (f_ret1 (v := .bool (decide ((lo ≤ a ∧ a ≤ hi) ∧ (lo ≤ b ∧ b ≤ hi)))) Try.results66 rfl ?_)))))
  exact ⟨by simp [*], E17⟩
 ·
  refine t_skip rfl rfl rfl (t_skip rfl rfl rfl (t_skip rfl rfl rfl (t_skip rfl rfl rfl (t_skip rfl rfl rfl (t_skip rfl rfl rfl (t_skip rfl rfl rfl (t_skip rfl rfl rfl (t_pick_f rfl rfl rfl rfl (t_assign rfl rfl rfl (t_nil' (hK7 _ _ (c_ret (f_ret1 (v := .bool false) Try.results66 rfl ?_)))))))))))))
  exact ⟨by simp [*], E6⟩

theorem rowAdd_c (r : Row) (h : Hull) (w0 : World) (h1 : 0 ≤ r.wide ∧ r.wide ≤ 1000000000) (h2 : 0 ≤ h.wid ∧ h.wid ≤ 1000000000) (h3 : 0 ≤ r.mass ∧ r.mass ≤ 1000000000) (h4 : 0 ≤ h.mass ∧ h.mass ≤ 1000000000) :
    CallsV Try.prog 75 [.agg #[.int .i64 r.long, .int .i64 r.wide, .int .i64 r.mass], .agg #[.int .i64 h.len, .int .i64 h.wid, .int .i64 h.mass]] w0 (fun v w' => v = .agg #[.int .i64 (max r.long h.len), .int .i64 (r.wide + h.wid), .int .i64 (r.mass + h.mass)] ∧ Ext w0 w') := by
 have E0 := Upd.refl (fun _ => False) w0
 refine f_enter (N := 21) Try.func75 rfl rfl rfl ?_
 change WC _ _ _ _ _ _ [(0, .agg #[.int .i64 r.long, .int .i64 r.wide, .int .i64 r.mass]), (1, .agg #[.int .i64 h.len, .int .i64 h.wid, .int .i64 h.mass])] _
 refine c_seq fun K1 hK1 => (c_region (t_box (cs := [.int .i64 r.long, .int .i64 r.wide, .int .i64 r.mass]) rfl rfl rfl rfl (fun bk2 w3 ebk2 sbk2 B4 u5 => ?_)))
 have zu5 := u5.size
 have E6 := E0.next u5 (fun _ _ h => h.elim)
 refine t_box (cs := [.int .i64 h.len, .int .i64 h.wid, .int .i64 h.mass]) rfl rfl rfl rfl (fun bk7 w8 ebk7 sbk7 B9 u10 => ?_)
 have zu10 := u10.size
 have E11 := E6.next u10 (fun _ _ h => h.elim)
 refine t_alloc (cs := [.int .i64 0, .int .i64 0, .int .i64 0]) Try.zeroValue138 rfl rfl rfl (fun bk12 w13 ebk12 sbk12 B14 u15 => ?_)
 have zu15 := u15.size
 have E16 := E11.next u15 (fun _ _ h => h.elim)
 refine t_nil' (hK1 _ _ (c_seq fun K17 hK17 => (c_region (t_field Try.underlying138 rfl Try.sizeOf3 (0) rfl rfl rfl rfl ?_))))
 have B18 := ((B4.keep u10 (fun h => h)).keep u15 (fun h => h))
 refine t_load Try.isAgg3 rfl rfl rfl (B18.get rfl) (t_field Try.underlying23 rfl Try.sizeOf3 (0) rfl rfl rfl rfl ?_)
 have B19 := (B9.keep u15 (fun h => h))
 refine t_load Try.isAgg3 rfl rfl rfl (B19.get rfl) (t_max rfl rfl rfl rfl (t_field Try.underlying138 rfl Try.sizeOf3 (1) rfl rfl rfl rfl (t_load Try.isAgg3 rfl rfl rfl (B18.get rfl) (t_field Try.underlying23 rfl Try.sizeOf3 (1) rfl rfl rfl rfl (t_load Try.isAgg3 rfl rfl rfl (B19.get rfl) (t_ari rfl rfl rfl rfl rfl (by omega) (t_field Try.underlying138 rfl Try.sizeOf3 (2) rfl rfl rfl rfl (t_load Try.isAgg3 rfl rfl rfl (B18.get rfl) (t_field Try.underlying23 rfl Try.sizeOf3 (2) rfl rfl rfl rfl (t_load Try.isAgg3 rfl rfl rfl (B19.get rfl) (t_ari rfl rfl rfl rfl rfl (by omega) (t_build (ps := [(0, .int .i64 (max r.long h.len)), (1, .int .i64 (r.wide + h.wid)), (2, .int .i64 (r.mass + h.mass))]) (v := .agg #[.int .i64 (max r.long h.len), .int .i64 (r.wide + h.wid), .int .i64 (r.mass + h.mass)]) rfl rfl ⟨rfl, rfl⟩ (fun w => by kernel_rfl) (t_store (vs := [.int .i64 (max r.long h.len), .int .i64 (r.wide + h.wid), .int .i64 (r.mass + h.mass)]) Try.sizeOf138 rfl rfl rfl B14 rfl rfl (Nat.le_of_ble_eq_true rfl) (by simp [Value.oneCell']) (fun w20 sw20 B22 u21 => ?_))))))))))))))
 have zu21 := u21.size
 have E23 := E16.next u21 (fun i hi (h : i = bk12) => show False by first | omega | assumption)
 have B22 : Blk w20 bk12 138 [.int .i64 (max r.long h.len), .int .i64 (r.wide + h.wid), .int .i64 (r.mass + h.mass)] := B22
 refine t_nil' (hK17 _ _ (c_ret (f_ret1 (v := .agg #[.int .i64 (max r.long h.len), .int .i64 (r.wide + h.wid), .int .i64 (r.mass + h.mass)]) Try.results75 ⟨_, _, rfl, run_loadVarN (vs := [.int .i64 (max r.long h.len), .int .i64 (r.wide + h.wid), .int .i64 (r.mass + h.mass)]) Try.isAgg138 Try.sizeOf138 rfl (B22.at.sub 0 3)⟩ ?_)))
 exact ⟨rfl, E23⟩

end Go.Proofs.Ytmicjleiheoieaa
