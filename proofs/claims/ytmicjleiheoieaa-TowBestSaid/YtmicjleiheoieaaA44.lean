/-
  The iterator over all orders of so many voyages. Conditions: none.
-/
import Derived.Test.YtmicjleiheoieaaA11
import Derived.Test.YtmicjleiheoieaaYld
import Derived.Test.YtmicjleiheoieaaClip
namespace Go.Proofs.Ytmicjleiheoieaa
open Go Go.RowKit
theorem Sl.clip {α : Type} [Inhabited α] {enc : α → List Value} {k : Nat} {w : World} {ao : Option Addr} {b o : Nat} {xs : List α} (h : Sl enc k w ao b o xs) : Sl enc k w (subAddr ao xs.length 0 k) b o xs := by
  have := h.subTo xs.length xs.length (Nat.le_refl _)
  rwa [List.take_length] at this
/-- All orders that begin with pk, m voyages being left of n. -/
def permsF (n : Nat) : Nat → List Int → List (List Int)
  | 0, pk => [pk]
  | m + 1, pk => (List.range n).flatMap fun (i : Nat) => if (i : Int) ∈ pk then [] else permsF n m (pk ++ [(i : Int)])
def permsK (n m k : Nat) (pk : List Int) : List (List Int) := (List.range k).flatMap fun (i : Nat) => if (i : Int) ∈ pk then [] else permsF n m (pk ++ [(i : Int)])
theorem permsK_succ {n m k : Nat} {pk : List Int} : permsK n m (k + 1) pk = permsK n m k pk ++ (if (k : Int) ∈ pk then [] else permsF n m (pk ++ [(k : Int)])) := by
  unfold permsK; rw [List.range_succ, List.flatMap_append]; simp
/-- A beginning of an order. -/
def okPick (n : Nat) (pk : List Int) : Prop := (∀ j ∈ pk, 0 ≤ j ∧ j < n) ∧ pk.Nodup
theorem okPick.snoc {n : Nat} {pk : List Int} {i : Nat} (h : okPick n pk) (hi : i < n) (hn : ¬ (i : Int) ∈ pk) : okPick n (pk ++ [(i : Int)]) := by
  refine ⟨fun j hj => ?_, ?_⟩
  · rcases List.mem_append.1 hj with h1 | h1
    · exact h.1 j h1
    · rw [List.mem_singleton.1 h1]; omega
  · refine List.nodup_append.2 ⟨h.2, by simp, fun a ha b hb e => ?_⟩
    rw [List.mem_singleton.1 hb] at e; subst e; exact hn ha
/-- An order that is handed out, and what had been handed out before it. -/
structure Pick where
  pre : List (List Int)
  xs : List Int
  ao : Option Addr
  b : Nat
  cap : Nat
  w : World
def encPick (x : Pick) : Value := .slice x.ao x.xs.length x.cap
def YPick (n D : Nat) (C : List (List Int) → World → Prop) (x : Pick) (W : World) : Prop := C x.pre W ∧ Sl encI 1 W x.ao x.b 0 x.xs ∧ (okPick n x.xs ∧ x.xs.length = n ∧ x.xs.length ≤ x.cap ∧ (0 < x.xs.length → D + 1 < x.b)) ∧ D + 1 < W.heap.size ∧ Upd (· = D + 1) x.w W
def ZPick (T : Nat → Prop) (C : List (List Int) → World → Prop) (x : Pick) (W : World) : Prop := C (x.pre ++ [x.xs]) W ∧ Upd T x.w W
theorem YPick.turned {n D : Nat} {C : List (List Int) → World → Prop} (hC : Turned (D + 1) C) : Turned (D + 1) (YPick n D C) := fun x W W' h hl u => by
  refine ⟨hC _ _ _ h.1 hl u, h.2.1.keep u (fun hp => h.2.1.notLoop (fun _ => by simp [encI]) hl hp), h.2.2.1, Nat.lt_of_lt_of_le h.2.2.2.1 u.size, h.2.2.2.2.trans u⟩
theorem ZPick.turned {D : Nat} {T : Nat → Prop} {C : List (List Int) → World → Prop} (hC : Turned (D + 1) C) (hT : T (D + 1)) : Turned (D + 1) (ZPick T C) := fun x W W' h hl u =>
  ⟨hC _ _ _ h.1 hl u, h.2.trans (u.mono fun i e => by subst e; exact hT)⟩

theorem own118 : Own Try.prog 118 := ⟨Try.f118, Try.func118, by kernel_rfl, by kernel_rfl⟩
theorem own106 : Own Try.prog 106 := ⟨Try.f106, Try.func106, by kernel_rfl, by kernel_rfl⟩
theorem own107 : Own Try.prog 107 := ⟨Try.f107, Try.func107, by kernel_rfl, by kernel_rfl⟩

theorem idxI_c (pk : List Int) (ao : Option Addr) (b o cap : Nat) (x : Int) (w0 : World) (hs : Sl encI 1 w0 ao b o pk) (hl : pk.length ≤ 1000000) :
    CallsV Try.prog 118 [.slice ao pk.length cap, .int .i64 x] w0 (fun v w' => (∃ r, v = .int .i64 r ∧ (0 ≤ r ↔ x ∈ pk)) ∧ Ext w0 w') := by
 have E0 := Upd.refl (fun _ => False) w0
 refine f_enter (N := 19) Try.func118 rfl rfl rfl ?_
 change WC _ _ _ _ _ _ [(0, .slice ao pk.length cap), (1, .int .i64 x)] _
 refine c_seq fun K1 hK1 => (c_region (t_assign rfl rfl rfl (t_nil' (hK1 _ _ (c_seq fun K2 hK2 => (c_seq fun K3 hK3 => (c_region (t_move rfl rfl rfl (t_len Try.underlying27 rfl rfl rfl rfl (t_move rfl rfl rfl (t_nil' (hK3 _ _ (c_block (c_loop (γ := Nat) (fun k => [(0, .slice ao pk.length cap), (1, .int .i64 x), (7, .int .i64 (pk.length : Int)), (8, .int .i64 (k : Int))]) (fun k w => Upd (fun _ => False) w0 w ∧ (k ≤ pk.length) ∧ (∀ j, j < k → nth pk j ≠ x)) (fun k => pk.length - k) 0 ⟨rfl, rfl, rfl, rfl, trivial⟩ ⟨Upd.refl _ _, (Nat.zero_le _), (fun j hj => absurd hj (Nat.not_lt_zero _))⟩ ?_))))))))))))))
 intro k w5 hW K4 hK4
 obtain ⟨u6, I7, I8⟩ := hW
 have zu6 := u6.size
 have E9 := E0.next u6 (fun _ _ h => h.elim)
 have hk := I7; clear I7
 have hne := I8; clear I8
 refine c_seq fun K10 hK10 => (c_region (t_cmp rfl rfl rfl rfl rfl (t_nil' (hK10 _ _ (c_seq fun K11 hK11 => (c_condp rfl (fun g9 => ?_) (fun g9 => ?_)))))))
 ·
  refine c_skip (hK11 _ _ (c_seq fun K12 hK12 => (c_block (c_seq fun K13 hK13 => (c_region (t_move rfl rfl rfl (t_assign rfl rfl rfl (t_nil' (hK13 _ _ (c_seq fun K14 hK14 => (c_region (t_move rfl rfl rfl (t_move rfl rfl rfl (t_move rfl rfl rfl ?_))))))))))))))
  have i15 : k < pk.length := (by omega)
  refine t_index (j := k) Try.underlying27 Try.sizeOf3 rfl rfl rfl rfl ((hs.keep E9 (fun _ h => h)).addr (by omega)) rfl i15 (t_load Try.isAgg3 rfl rfl rfl (((hs.keep E9 (fun _ h => h)).at_ k (by omega)) 0 _ rfl) (t_cmp rfl rfl rfl rfl rfl (t_nil' (hK14 _ _ (c_condp rfl (fun g16 => ?_) (fun g16 => ?_))))))
  ·
   refine c_seq fun K16 hK16 => (c_region (t_move rfl rfl rfl (t_assign rfl rfl rfl (t_nil' (hK16 _ _ (c_ret (f_ret1 (v := .int .i64 (k : Int)) Try.results118 rfl ?_)))))))
   exact ⟨⟨_, rfl, ⟨fun _ => by rw [g16]; exact nth_mem (by omega), fun _ => by omega⟩⟩, E9⟩
  ·
   refine c_skip (hK12 _ _ (c_region (t_ari rfl rfl rfl rfl rfl (by omega) (t_move rfl rfl rfl (t_nil' ?_)))))
   exact hK4 (k + 1) _ _ (by omega) ⟨rfl, rfl, rfl, rfl, trivial⟩ ⟨u6, (by omega), (fun j hj => by
     rcases Nat.lt_or_ge j k with h | h
     · exact hne j h
     · rw [show j = k from by omega]; exact fun e => g16 e.symm)⟩
 ·
  refine c_exit (hK2 _ _ (c_seq fun K17 hK17 => (c_region (t_assign rfl rfl rfl (t_nil' (hK17 _ _ (c_ret (f_ret1 (v := .int .i64 (-1)) Try.results118 rfl ?_))))))))
  exact ⟨⟨_, rfl, ⟨fun h => by omega, fun h => by
    obtain ⟨j, hj, e⟩ := List.mem_iff_getElem.1 h
    exact absurd ((nth_eq hj).trans e) (hne j (by omega))⟩⟩, E9⟩

theorem hasI_c (pk : List Int) (ao : Option Addr) (b o cap : Nat) (x : Int) (w0 : World) (hs : Sl encI 1 w0 ao b o pk) (hl : pk.length ≤ 1000000) :
    CallsV Try.prog 106 [.slice ao pk.length cap, .int .i64 x] w0 (fun v w' => v = .bool (decide (x ∈ pk)) ∧ Ext w0 w') := by
 have E0 := Upd.refl (fun _ => False) w0
 refine f_enter (N := 9) Try.func106 rfl rfl rfl ?_
 change WC _ _ _ _ _ _ [(0, .slice ao pk.length cap), (1, .int .i64 x)] _
 refine c_seq fun K1 hK1 => (c_region (t_assign rfl rfl rfl (t_nil' (hK1 _ _ (c_seq fun K2 hK2 => (c_region (t_move rfl rfl rfl (t_move rfl rfl rfl (t_call (vs := [.slice ao pk.length cap, .int .i64 x]) own118 rfl rfl rfl rfl (idxI_c pk ao b o cap x _ hs hl) (fun v3 w4 r6 => ?_))))))))))
 obtain ⟨⟨ri, rfl, hri⟩, u5⟩ := r6
 have zu5 := u5.size
 have E7 := E0.next u5 (fun _ _ h => h.elim)
 refine t_cmp rfl rfl rfl rfl rfl (t_assign rfl rfl rfl (t_nil' (hK2 _ _ (c_ret (f_ret1 (v := .bool (decide (0 ≤ ri))) Try.results106 rfl ?_)))))
 exact ⟨congrArg Value.bool (decide_eq_decide.2 hri), E7⟩

theorem clipI_c (pk : List Int) (ao : Option Addr) (cap : Nat) (w0 : World) (hc : pk.length ≤ cap) :
    CallsV Try.prog 107 [.slice ao pk.length cap] w0 (fun v w' => v = .slice (subAddr ao pk.length 0 1) pk.length pk.length ∧ Ext w0 w') := by
 have E0 := Upd.refl (fun _ => False) w0
 refine f_enter (N := 9) Try.func107 rfl rfl rfl ?_
 change WC _ _ _ _ _ _ [(0, .slice ao pk.length cap)] _
 refine c_seq fun K1 hK1 => (c_region (t_assign rfl rfl rfl (t_nil' (hK1 _ _ (c_seq fun K2 hK2 => (c_region (t_move rfl rfl rfl (t_move rfl rfl rfl (t_len Try.underlying27 rfl rfl rfl rfl (t_move rfl rfl rfl (t_len Try.underlying27 rfl rfl rfl rfl (t_sliceC Try.underlying27 Try.sizeOf3 rfl rfl rfl rfl rfl rfl rfl hc (t_assign rfl rfl rfl (t_nil' (hK2 _ _ (c_ret (f_ret1 (v := .slice (subAddr ao pk.length 0 1) pk.length pk.length) Try.results107 rfl ?_)))))))))))))))))
 exact ⟨rfl, E0⟩


structure FurP (n l D b1 b2 b3 : Nat) (T : Nat → Prop) (C : List (List Int) → World → Prop) (R : World → Prop) (m : Nat) (pre : List (List Int)) (pk : List Int) (ao : Option Addr) (b cap : Nat) (w : World) : Prop where
  h1 : Blk w b1 3 [.int .i64 (n : Int)]
  h2 : Blk w b2 174 [.func (.yield l) #[] #[]]
  h3 : Blk w b3 174 [.func (.func 105) #[] #[.pointer (some ⟨b1, 0, none⟩), .pointer (some ⟨b2, 0, none⟩), .pointer (some ⟨b3, 0, none⟩)]]
  hl : l = D + 1
  hs : Sl encI 1 w ao b 0 pk
  hb : 0 < pk.length → D + 1 < b
  hw : D + 1 < w.heap.size
  cap : pk.length ≤ cap
  ok : okPick n pk
  len : pk.length + m = n
  nn : n ≤ 100
  T1 : ¬ T b1
  T2 : ¬ T b2
  T3 : ¬ T b3
  TD : ∀ i, D + 1 < i → ¬ T i
  r : R w
  c : C pre w
def FurQ (P : Program) (n b1 b2 b3 : Nat) (l D : Nat) (T : Nat → Prop) (C : List (List Int) → World → Prop) (R : World → Prop) (m : Nat) : Prop :=
  ∀ pre pk ao b cap w0, FurP n l D b1 b2 b3 T C R m pre pk ao b cap w0 → CallsV P 105 [.slice ao pk.length cap, .pointer (some ⟨b1, 0, none⟩), .pointer (some ⟨b2, 0, none⟩), .pointer (some ⟨b3, 0, none⟩)] w0 (fun v w' => v = .bool true ∧ Upd T w0 w' ∧ C (pre ++ permsF n m pk) w' ∧ R w')

set_option maxHeartbeats 1000000 in
theorem further_s (n l D b1 b2 b3 : Nat) (T : Nat → Prop) (C : List (List Int) → World → Prop) (R : World → Prop) (m : Nat) (pre : List (List Int)) (pk : List Int) (ao : Option Addr) (b cap : Nat) (w0 : World) (hC : ∀ pre W W', C pre W → Ext W W' → C pre W') (hH : Hands Try.prog l D encPick (YPick n D C) (ZPick T C) R) (hp : FurP n l D b1 b2 b3 T C R m pre pk ao b cap w0) (ih : ∀ q, q + 1 = m → FurQ Try.prog n b1 b2 b3 l D T C R q) :
    CallsV Try.prog 105 [.slice ao pk.length cap, .pointer (some ⟨b1, 0, none⟩), .pointer (some ⟨b2, 0, none⟩), .pointer (some ⟨b3, 0, none⟩)] w0 (fun v w' => v = .bool true ∧ Upd T w0 w' ∧ C (pre ++ permsF n m pk) w' ∧ R w') := by
 have hR : ∀ W W', R W → Ext W W' → R W' := fun W W' h u => hH.keep h u (fun h => h) (fun h => h)
 have hlen := hp.len
 have hnn := hp.nn
 have hcap := hp.cap
 have hp1 := hp.h1
 have hp2 := hp.h2
 have hp3 := hp.h3
 have hps := hp.hs
 have hT1 := hp.T1
 have hT2 := hp.T2
 have hT3 := hp.T3
 have hTp : 0 < pk.length → ¬ T b := fun h => hp.TD _ (hp.hb h)
 have hww := hp.hw
 have hpr := hp.r
 have hpc := hp.c
 have E0 := Upd.refl (fun i => T i) w0
 refine f_enter (N := 33) Try.func105 rfl rfl rfl ?_
 change WC _ _ _ _ _ _ [(0, .slice ao pk.length cap), (1, .pointer (some ⟨b1, 0, none⟩)), (2, .pointer (some ⟨b2, 0, none⟩)), (3, .pointer (some ⟨b3, 0, none⟩))] _
 refine c_seq fun K1 hK1 => (c_region (t_assign rfl rfl rfl (t_nil' (hK1 _ _ (c_seq fun K2 hK2 => (c_seq fun K3 hK3 => (c_region (t_move rfl rfl rfl (t_len Try.underlying27 rfl rfl rfl rfl (t_load Try.isAgg3 rfl rfl rfl (hp1.get rfl) (t_cmp rfl rfl rfl rfl rfl (t_nil' (hK3 _ _ (c_condp rfl (fun g10 => ?_) (fun g10 => ?_)))))))))))))))
 ·
  refine c_seq fun K4 hK4 => (c_region (t_load Try.isAgg174 rfl rfl rfl (hp2.get rfl) (t_move rfl rfl rfl (t_yield (vs := [.slice ao pk.length cap]) rfl rfl rfl rfl (hH.hand ⟨pre, pk, ao, b, cap, w0⟩ _ ⟨hpc, hps, ⟨hp.ok, by have := hp.len; show pk.length = n; omega, hp.cap, hp.hb⟩, by omega, Upd.refl _ _⟩ hpr) (by rintro e w' ⟨rfl, _⟩; exact ⟨_, rfl⟩) (fun v5 w6 r7 => ?_)))))
  obtain ⟨hvr7, hrr7⟩ := r7
  injection hvr7 with hvr7
  subst hvr7
  obtain ⟨⟨hzC, u8⟩, hzR⟩ := hrr7
  have zu8 := u8.size
  have E9 := E0.next u8 (fun i hi (h : T i) => show T i by first | omega | assumption)
  refine t_assign rfl rfl rfl (t_nil' (hK4 _ _ (c_ret (f_ret1 (v := .bool true) Try.results105 rfl ?_))))
  exact ⟨rfl, E9, (by rw [show m = 0 from by omega]; exact hzC), hzR⟩
 ·
  have hm : 0 < m := by omega
  refine c_skip (hK2 _ _ (c_seq fun K10 hK10 => (c_seq fun K11 hK11 => (c_region (t_load Try.isAgg3 rfl rfl rfl (hp1.get rfl) (t_move rfl rfl rfl (t_nil' (hK11 _ _ (c_block (c_loop (γ := Nat) (fun k => [(0, .slice ao pk.length cap), (3, .pointer (some ⟨b3, 0, none⟩)), (14, .int .i64 (n : Int)), (15, .int .i64 (k : Int))]) (fun k w => Upd (fun i => T i) w0 w ∧ (k ≤ n) ∧ (C (pre ++ permsK n (m - 1) k pk) w) ∧ (R w)) (fun k => n - k) 0 ⟨rfl, rfl, rfl, rfl, trivial⟩ ⟨Upd.refl _ _, (Nat.zero_le _), (by simpa [permsK] using hpc), hpr⟩ ?_))))))))))
  intro k w13 hW K12 hK12
  obtain ⟨u14, I15, I16, I17⟩ := hW
  have zu14 := u14.size
  have E18 := E0.next u14 (fun i hi (h : T i) => show T i by first | omega | assumption)
  have hk := I15; clear I15
  have hCk := I16; clear I16
  have hRk := I17; clear I17
  refine c_seq fun K19 hK19 => (c_region (t_cmp rfl rfl rfl rfl rfl (t_nil' (hK19 _ _ (c_seq fun K20 hK20 => (c_condp rfl (fun g16 => ?_) (fun g16 => ?_)))))))
  ·
   refine c_skip (hK20 _ _ (c_seq fun K21 hK21 => (c_block (c_seq fun K22 hK22 => (c_region (t_move rfl rfl rfl (t_assign rfl rfl rfl (t_nil' (hK22 _ _ (c_seq fun K23 hK23 => ?_))))))))))
   have B24 := (hp3.keep u14 (show ¬ (T b3) by first | omega | assumption))
   by_cases g22 : ¬ ((k : Int) ∈ pk)
   ·
    refine WC.weak [(0, .slice ao pk.length cap), (3, .pointer (some ⟨b3, 0, none⟩)), (6, .int .i64 (k : Int)), (14, .int .i64 (n : Int)), (15, .int .i64 (k : Int))] ⟨rfl, rfl, rfl, rfl, rfl, trivial⟩ (c_drawnS follows 14 11 [some (18, some (.slice ao pk.length cap)), some (19, some (.int .i64 (k : Int))), some (20, some (.bool (decide ((k : Int) ∈ pk)))), some (21, some (.bool (decide (¬ ((k : Int) ∈ pk))))), some (22, some (.bool true)), some (23, some (.func (.func 105) #[] #[.pointer (some ⟨b1, 0, none⟩), .pointer (some ⟨b2, 0, none⟩), .pointer (some ⟨b3, 0, none⟩)])), some (24, some (.slice ao pk.length cap)), some (25, some (.slice (subAddr ao pk.length 0 1) pk.length pk.length)), some (26, some (.int .i64 (k : Int))), some (27, none), some (28, none)] [[],[],[0,1],[2],[3,2],[4],[4],[6,4,4],[4],[8,4],[7,9,7,4],[5,10,10,4],[11,4],[4,12]] (fun D ρ w => Upd (fun _ => False) w13 w ∧ (D 9 = true → ∃ bk43, ρ 9 = .slice (some ⟨bk43, 0, none⟩) 1 1 ∧ w13.heap.size ≤ bk43 ∧ Blk w bk43 3 [.int .i64 (k : Int)]) ∧ (D 10 = true → ∃ gA cA, ρ 10 = .slice (some ⟨gA, 0, none⟩) ((pk ++ [(k : Int)]).length) cA ∧ (Sl encI 1 w (some ⟨gA, 0, none⟩) gA 0 (pk ++ [(k : Int)]) ∧ w13.heap.size ≤ gA ∧ (pk ++ [(k : Int)]).length ≤ cA))) rfl rfl rfl rfl (by kernel_rfl) (by kernel_rfl) (by kernel_rfl) ⟨(Upd.drew _).to, (fun h => by cases h), (fun h => by cases h)⟩ ⟨?_, ?_, ?_, ?_, ?_, ?_, ?_, ?_, ?_, ?_, ?_, trivial⟩ ?_)
    · exact pz rfl rfl rfl rfl fun _ _ _ h => h
    · exact pz rfl rfl rfl rfl fun _ _ _ h => h
    ·
     intro D ρ w48 hcD hnD hdD hW
     obtain ⟨u49, F50, F51⟩ := hW
     have zu49 := u49.size
     refine ⟨_, kf_fr [18, 19], fun Lr => ?_⟩
     have D53 := ((hps.keep u14 hTp).keep u49 (fun _ h => h))
     refine t_call (vs := [.slice ao pk.length cap, .int .i64 (k : Int)]) own106 rfl rfl rfl rfl (hasI_c pk ao b 0 cap (k : Int) _ D53 (by omega)) (fun v54 w55 r57 => ?_)
     obtain ⟨rfl, u56⟩ := r57
     have zu56 := u56.size
     exact dz rfl ⟨(u49.next u56 (fun _ _ h => h.elim)), (fun h => absurd ((hcD.late 9 (hcD.late 4 hnD rfl) rfl).symm.trans h) (by decide)), (fun h => absurd ((hcD.late 10 (hcD.late 4 hnD rfl) rfl).symm.trans h) (by decide))⟩
    · exact fun D ρ w _ _ _ hW => ⟨[(20, .bool (decide ((k : Int) ∈ pk)))], ⟨fi 2 rfl rfl rfl, trivial⟩, fun Lr => t_notp rfl rfl rfl (dz rfl hW)⟩
    · exact fun D ρ w _ _ _ hW => ⟨[(21, .bool (decide (¬ ((k : Int) ∈ pk))))], ⟨fi 3 rfl rfl rfl, trivial⟩, fun Lr => t_move rfl rfl rfl (t_samehd (v := .bool true) (by first | exact congrArg Value.bool (decide_eq_true g22) | exact congrArg Value.bool g22 | simp [g22]) (dz rfl hW))⟩
    · exact fun D ρ w59 hcD hnD hdD hW => ⟨_, kf_fr [3, 22], fun Lr => t_load Try.isAgg174 rfl rfl rfl ((B24.keep hW.1 (fun h => h)).get rfl) (dz rfl hW)⟩
    · exact pz rfl rfl rfl rfl fun _ _ _ h => h
    ·
     intro D ρ w65 hcD hnD hdD hW
     obtain ⟨u66, F67, F68⟩ := hW
     have zu66 := u66.size
     refine ⟨_, kf_fr [22, 24], fun Lr => ?_⟩
     refine t_call (vs := [.slice ao pk.length cap]) own107 rfl rfl rfl rfl (clipI_c pk ao cap _ hcap) (fun v70 w71 r73 => ?_)
     obtain ⟨rfl, u72⟩ := r73
     have zu72 := u72.size
     exact dz rfl ⟨(u66.next u72 (fun _ _ h => h.elim)), (fun h => by obtain ⟨b, e, hge, hB⟩ := F67 h; exact ⟨b, e, hge, (hB.keep u72 (fun h => h))⟩), (fun h => absurd ((hcD.late 10 hnD rfl).symm.trans h) (by decide))⟩
    · exact pz rfl rfl rfl rfl fun _ _ _ h => h
    ·
     intro D ρ w75 hcD hnD hdD hW
     obtain ⟨u76, F77, F78⟩ := hW
     have zu76 := u76.size
     refine ⟨_, kf_fr [22, 26], fun Lr => ?_⟩
     refine t_bslice (ps := [(0, .int .i64 (k : Int))]) (cs := [.int .i64 (k : Int)]) (e := 3) rfl rfl ⟨rfl, rfl⟩ (fun w => by kernel_rfl) (fun bk80 w81 ebk80 sbk80 B82 u83 => ?_)
     have zu83 := u83.size
     exact dzn rfl ⟨(u76.next u83 (fun _ _ h => h.elim)), (fun _ => ⟨bk80, rfl, (by omega), (by show Blk w81 bk80 3 [.int .i64 (k : Int)]; exact B82)⟩), (fun h => absurd ((hcD.late 10 hnD rfl).symm.trans h) (by decide))⟩
    ·
     intro D ρ w85 hcD hnD hdD hW
     obtain ⟨u86, F87, F88⟩ := hW
     have zu86 := u86.size
     obtain ⟨bk43, e90, gebk43, B91⟩ := F87 (hdD 9 rfl)
     refine ⟨[(22, .bool true), (25, .slice (subAddr ao pk.length 0 1) pk.length pk.length), (27, .slice (some ⟨bk43, 0, none⟩) 1 1)], ⟨fi 4 rfl rfl rfl, fi 7 rfl rfl rfl, fi 9 rfl rfl e90.symm, trivial⟩, fun Lr => ?_⟩
     have D92 := ((hps.keep u14 hTp).keep u86 (fun _ h => h))
     refine t_appClip (z := .int .i64 0) (bytes := 8) (k := 1) (enc := encI) (k : Int) Try.underlying27 (by kernel_rfl) rfl (by decide) (fun _ => rfl) (by intro x; simp [encI, Value.oneCell']) rfl rfl rfl rfl rfl (D92).clip B91 (by omega) (by decide) (fun gA cA w93 A95 u94 gegA => ?_)
     have zu94 := u94.size
     exact dzn rfl ⟨(u86.next u94 (fun _ _ h => h.elim)), (fun h => by obtain ⟨b, e, hge, hB⟩ := F87 h; exact ⟨b, e, hge, (hB.keep u94 (fun h => h))⟩), (fun _ => ⟨gA, cA, rfl, ⟨A95.sl (fun _ => rfl), by omega, A95.cap_le⟩⟩)⟩
    intro ρ w97 hW
    obtain ⟨u98, F99, F100⟩ := hW
    have zu98 := u98.size
    obtain ⟨bk43, e102, gebk43, B103⟩ := F99 rfl
    have B103 : Blk w97 bk43 3 [.int .i64 (k : Int)] := B103
    have lt_bk43 := B103.lt
    obtain ⟨gA, cA, e104, H105⟩ := F100 rfl
    refine t_weak [(0, .slice ao pk.length cap), (3, .pointer (some ⟨b3, 0, none⟩)), (14, .int .i64 (n : Int)), (15, .int .i64 (k : Int)), (22, .bool true), (23, .func (.func 105) #[] #[.pointer (some ⟨b1, 0, none⟩), .pointer (some ⟨b2, 0, none⟩), .pointer (some ⟨b3, 0, none⟩)]), (28, .slice (some ⟨gA, 0, none⟩) ((pk ++ [(k : Int)]).length) cA)] ⟨rfl, rfl, rfl, rfl, rfl, rfl, (look_nd (j := 10) rfl rfl rfl e104), trivial⟩ ?_
    have B106 := ((hp1.keep u14 (show ¬ (T b1) by first | omega | assumption)).keep u98 (fun h => h))
    have B107 := ((hp2.keep u14 (show ¬ (T b2) by first | omega | assumption)).keep u98 (fun h => h))
    have B108 := (B24.keep u98 (fun h => h))
    refine t_call (vs := [.slice (some ⟨gA, 0, none⟩) ((pk ++ [(k : Int)]).length) cA]) own105 rfl rfl rfl rfl (ih (m - 1) (by omega) _ _ _ gA _ _ ⟨B106, B107, B108, hp.hl, H105.1, fun _ => by have := H105.2.1; omega, by omega, H105.2.2, hp.ok.snoc (by omega) g22, by simp; omega, hp.nn, hp.T1, hp.T2, hp.T3, hp.TD, (hR _ _ hRk ((Upd.refl (fun _ => False) _).next u98 (fun _ _ h => h.elim))), (hC _ _ _ hCk ((Upd.refl (fun _ => False) _).next u98 (fun _ _ h => h.elim)))⟩) (fun v109 w110 r112 => ?_)
    obtain ⟨rfl, u111, hCn, hRn⟩ := r112
    have zu111 := u111.size
    refine t_not rfl rfl rfl (t_pick_t rfl rfl rfl rfl (t_nil' (hK23 _ _ (c_cond_f rfl (c_skip (hK21 _ _ (c_region (t_ari rfl rfl rfl rfl rfl (by omega) (t_move rfl rfl rfl (t_nil' ?_))))))))))
    exact hK12 (k + 1) _ _ (by omega) ⟨rfl, rfl, rfl, rfl, trivial⟩ ⟨((u14.next u98 (fun _ _ h => h.elim)).next u111 (fun i hi (h : T i) => show T i by first | omega | assumption)), (by show (k + 1) ≤ n; omega), (by rw [permsK_succ, if_neg g22, ← List.append_assoc]; exact hCn), hRn⟩
   ·
    refine WC.weak [(0, .slice ao pk.length cap), (3, .pointer (some ⟨b3, 0, none⟩)), (6, .int .i64 (k : Int)), (14, .int .i64 (n : Int)), (15, .int .i64 (k : Int))] ⟨rfl, rfl, rfl, rfl, rfl, trivial⟩ (c_drawnS follows 14 11 [some (18, some (.slice ao pk.length cap)), some (19, some (.int .i64 (k : Int))), some (20, some (.bool (decide ((k : Int) ∈ pk)))), some (21, some (.bool (decide (¬ ((k : Int) ∈ pk))))), some (22, some (.bool false)), some (23, some (undef)), some (24, some (undef)), some (25, some (undef)), some (26, some (undef)), some (27, some (undef)), some (28, some (undef))] [[],[],[0,1],[2],[3,2],[4],[4],[6,4,4],[4],[8,4],[7,9,7,4],[5,10,10,4],[11,4],[4,12]] (fun _ _ w => Upd (fun _ => False) w13 w) rfl rfl rfl rfl (by kernel_rfl) (by kernel_rfl) (by kernel_rfl) (Upd.drew _).to ⟨?_, ?_, ?_, ?_, ?_, ?_, ?_, ?_, ?_, ?_, ?_, trivial⟩ ?_)
    · exact pz rfl rfl rfl rfl fun _ _ _ h => h
    · exact pz rfl rfl rfl rfl fun _ _ _ h => h
    ·
     intro D ρ w120 hcD hnD hdD hW
     have zhW := hW.size
     refine ⟨_, kf_fr [18, 19], fun Lr => ?_⟩
     have D123 := ((hps.keep u14 hTp).keep hW (fun _ h => h))
     refine t_call (vs := [.slice ao pk.length cap, .int .i64 (k : Int)]) own106 rfl rfl rfl rfl (hasI_c pk ao b 0 cap (k : Int) _ D123 (by omega)) (fun v124 w125 r127 => ?_)
     obtain ⟨rfl, u126⟩ := r127
     have zu126 := u126.size
     exact dz rfl (hW.next u126 (fun _ _ h => h.elim))
    · exact fun D ρ w _ _ _ hW => ⟨[(20, .bool (decide ((k : Int) ∈ pk)))], ⟨fi 2 rfl rfl rfl, trivial⟩, fun Lr => t_notp rfl rfl rfl (dz rfl hW)⟩
    · exact fun D ρ w _ _ _ hW => ⟨[(21, .bool (decide (¬ ((k : Int) ∈ pk))))], ⟨fi 3 rfl rfl rfl, trivial⟩, fun Lr => t_move rfl rfl rfl (t_samehd (v := .bool false) (by first | exact congrArg Value.bool (decide_eq_false g22) | exact congrArg Value.bool g22 | simp [g22]) (dz rfl hW))⟩
    · exact pz rfl rfl rfl rfl fun _ _ _ h => h
    · exact pz rfl rfl rfl rfl fun _ _ _ h => h
    · exact pz rfl rfl rfl rfl fun _ _ _ h => h
    · exact pz rfl rfl rfl rfl fun _ _ _ h => h
    · exact pz rfl rfl rfl rfl fun _ _ _ h => h
    ·
     intro D ρ w129 hcD hnD hdD hW
     have zhW := hW.size
     refine ⟨_, kf_fr [22, 25, 27], fun Lr => ?_⟩
     refine t_skip rfl rfl rfl ?_
     exact dz rfl hW
    intro ρ w132 hW
    have u133 : Upd (fun _ => False) w13 w132 := hW
    have zu133 := u133.size
    refine t_weak [(0, .slice ao pk.length cap), (3, .pointer (some ⟨b3, 0, none⟩)), (14, .int .i64 (n : Int)), (15, .int .i64 (k : Int)), (22, .bool false)] ⟨rfl, rfl, rfl, rfl, rfl, trivial⟩ (t_skip rfl rfl rfl (t_skip rfl rfl rfl (t_pick_f rfl rfl rfl rfl (t_nil' (hK23 _ _ (c_cond_f rfl (c_skip (hK21 _ _ (c_region (t_ari rfl rfl rfl rfl rfl (by omega) (t_move rfl rfl rfl (t_nil' ?_))))))))))))
    exact hK12 (k + 1) _ _ (by omega) ⟨rfl, rfl, rfl, rfl, trivial⟩ ⟨(u14.next u133 (fun _ _ h => h.elim)), (by show (k + 1) ≤ n; omega), (by rw [permsK_succ, if_pos (Decidable.not_not.1 g22), List.append_nil]; exact (hC _ _ _ hCk ((Upd.refl (fun _ => False) _).next u133 (fun _ _ h => h.elim)))), (hR _ _ hRk ((Upd.refl (fun _ => False) _).next u133 (fun _ _ h => h.elim)))⟩
  ·
   refine c_exit (hK10 _ _ (c_seq fun K135 hK135 => (c_region (t_assign rfl rfl rfl (t_nil' (hK135 _ _ (c_ret (f_ret1 (v := .bool true) Try.results105 rfl ?_))))))))
   exact ⟨rfl, E18, (by rw [show permsF n m pk = permsK n (m - 1) k pk from by rw [show m = (m - 1) + 1 from by omega, show k = n from by omega]; rfl]; exact hCk), hRk⟩


theorem further_c (n l D b1 b2 b3 : Nat) (T : Nat → Prop) (C : List (List Int) → World → Prop) (R : World → Prop) (hC : ∀ pre W W', C pre W → Ext W W' → C pre W') (hH : Hands Try.prog l D encPick (YPick n D C) (ZPick T C) R) : ∀ m, FurQ Try.prog n b1 b2 b3 l D T C R m := by
  intro m
  induction m with
  | zero => exact fun pre pk ao b cap w0 hp => further_s n l D b1 b2 b3 T C R 0 pre pk ao b cap w0 hC hH hp (fun q hq => by omega)
  | succ m ih => exact fun pre pk ao b cap w0 hp => further_s n l D b1 b2 b3 T C R (m + 1) pre pk ao b cap w0 hC hH hp (fun q hq => by
      have : q = m := by omega
      subst this; exact ih)

theorem orders1_c (n l D b1 : Nat) (T : Nat → Prop) (C : List (List Int) → World → Prop) (R : World → Prop) (w0 : World) (hC : ∀ pre W W', C pre W → Ext W W' → C pre W') (hH : Hands Try.prog l D encPick (YPick n D C) (ZPick T C) R) (hb1 : Blk w0 b1 3 [.int .i64 (n : Int)]) (hl : l = D + 1) (hw : D + 1 < w0.heap.size) (hnn : n ≤ 100) (hT1 : ¬ T b1) (hTD : ∀ i, D + 1 < i → ¬ T i) (hr0 : R w0) (hc0 : C [] w0) :
    CallsV Try.prog 104 [.func (.yield l) #[] #[], .pointer (some ⟨b1, 0, none⟩)] w0 (fun _ w' => C (permsF n n []) w' ∧ R w') := by
 have hb1l := hb1.lt
 have hR : ∀ W W', R W → Ext W W' → R W' := fun W W' h u => hH.keep h u (fun h => h) (fun h => h)
 refine f_enter (N := 7) Try.func104 rfl rfl rfl ?_
 change WC _ _ _ _ _ _ [(0, .func (.yield l) #[] #[]), (1, .pointer (some ⟨b1, 0, none⟩))] _
 refine c_seq fun K1 hK1 => (c_region (t_box (cs := [.func (.yield l) #[] #[]]) rfl rfl rfl rfl (fun bk2 w3 ebk2 sbk2 B4 u5 => ?_)))
 have zu5 := u5.size
 refine t_nil' (hK1 _ _ (c_seq fun K7 hK7 => (c_region (t_alloc (cs := [.nilFunc]) Try.zeroValue174 rfl rfl rfl (fun bk8 w9 ebk8 sbk8 B10 u11 => ?_)))))
 have zu11 := u11.size
 refine t_nil' (hK7 _ _ (c_seq fun K13 hK13 => (c_region (t_mkfunc (vs := []) (us := [.pointer (some ⟨b1, 0, none⟩), .pointer (some ⟨bk2, 0, none⟩), .pointer (some ⟨bk8, 0, none⟩)]) rfl rfl rfl rfl (t_store (vs := [.func (.func 105) #[] #[.pointer (some ⟨b1, 0, none⟩), .pointer (some ⟨bk2, 0, none⟩), .pointer (some ⟨bk8, 0, none⟩)]]) Try.sizeOf174 rfl rfl rfl B10 rfl rfl (Nat.le_of_ble_eq_true rfl) (by simp [Value.oneCell']) (fun w14 sw14 B16 u15 => ?_))))))
 have zu15 := u15.size
 have B16 : Blk w14 bk8 174 [.func (.func 105) #[] #[.pointer (some ⟨b1, 0, none⟩), .pointer (some ⟨bk2, 0, none⟩), .pointer (some ⟨bk8, 0, none⟩)]] := B16
 refine t_nil' (hK13 _ _ (c_region (t_load Try.isAgg174 rfl rfl rfl (B16.get rfl) ?_)))
 have B18 := (((hb1.keep u5 (fun h => h)).keep u11 (fun h => h)).keep u15 (show ¬ (b1 = bk8) by first | omega | assumption))
 have B19 := ((B4.keep u11 (fun h => h)).keep u15 (show ¬ (bk2 = bk8) by first | omega | assumption))
 refine t_call (vs := [.slice none 0 0]) own105 rfl rfl rfl rfl (further_c n l D b1 bk2 bk8 T C R hC hH n [] [] none 0 0 _ ⟨B18, B19, B16, hl, Sl.nil _ _ _ _ _ _, fun h => absurd h (Nat.lt_irrefl _), by omega, Nat.le_refl _, ⟨fun j hj => (by cases hj), List.nodup_nil⟩, by simp, hnn, hT1, hTD _ (by omega), hTD _ (by omega), hTD, (hR _ _ hr0 ((((Upd.refl (fun _ => False) _).next u5 (fun _ _ h => h.elim)).next u11 (fun _ _ h => h.elim)).next u15 (fun i hi (h : i = bk8) => show False by first | omega | assumption))), (hC _ _ _ hc0 ((((Upd.refl (fun _ => False) _).next u5 (fun _ _ h => h.elim)).next u11 (fun _ _ h => h.elim)).next u15 (fun i hi (h : i = bk8) => show False by first | omega | assumption)))⟩) (fun v20 w21 r23 => ?_)
 obtain ⟨rfl, u22, hCn, hRn⟩ := r23
 have zu22 := u22.size
 refine t_nil' (f_ret0 Try.results104 ?_)
 exact ⟨by simpa using hCn, hRn⟩

theorem orders_c (n : Nat) (w0 : World) :
    CallsV Try.prog 86 [.int .i64 (n : Int)] w0 (fun v w' => (∃ b1, v = .func (.func 104) #[] #[.pointer (some ⟨b1, 0, none⟩)] ∧ w0.heap.size ≤ b1 ∧ Blk w' b1 3 [.int .i64 (n : Int)]) ∧ Ext w0 w') := by
 have E0 := Upd.refl (fun _ => False) w0
 refine f_enter (N := 4) Try.func86 rfl rfl rfl ?_
 change WC _ _ _ _ _ _ [(0, .int .i64 (n : Int))] _
 refine c_seq fun K1 hK1 => (c_region (t_box (cs := [.int .i64 (n : Int)]) rfl rfl rfl rfl (fun bk2 w3 ebk2 sbk2 B4 u5 => ?_)))
 have zu5 := u5.size
 have E6 := E0.next u5 (fun _ _ h => h.elim)
 refine t_assign rfl rfl rfl (t_nil' (hK1 _ _ (c_seq fun K7 hK7 => (c_region (t_mkfunc (vs := []) (us := [.pointer (some ⟨bk2, 0, none⟩)]) rfl rfl rfl rfl (t_assign rfl rfl rfl (t_nil' (hK7 _ _ (c_ret (f_ret1 (v := .func (.func 104) #[] #[.pointer (some ⟨bk2, 0, none⟩)]) Try.results86 rfl ?_))))))))))
 exact ⟨⟨_, rfl, by omega, B4⟩, E6⟩

end Go.Proofs.Ytmicjleiheoieaa
