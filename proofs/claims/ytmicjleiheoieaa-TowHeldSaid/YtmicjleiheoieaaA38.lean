/-
  The contract of Conflicts. Conditions: none.
-/
import Derived.Test.YtmicjleiheoieaaA11
import Derived.Test.YtmicjleiheoieaaSlm
import Derived.Test.YtmicjleiheoieaaUnr
import Derived.Test.YtmicjleiheoieaaMc
namespace Go.Proofs.Ytmicjleiheoieaa
open Go Go.RowKit
structure Mt where
  a : Nat
  b : Nat
  k : Nat
instance : Inhabited Mt := ⟨⟨default, default, default⟩⟩
def encMt (m : Mt) : List Value := [.int .i64 (m.a : Int), .int .i64 (m.b : Int), .int .i64 (m.k : Int)]
def cm (a b : Int) : Int := if a < b then -1 else if b < a then 1 else 0
def cm3 (a b c a' b' c' : Int) : Int := if cm a a' ≠ 0 then cm a a' else if cm b b' ≠ 0 then cm b b' else if cm c c' ≠ 0 then cm c c' else 0
def cfM (x y : Mt) : Int := cm3 x.a x.b x.k y.a y.b y.k
def ltM (x y : Mt) : Prop := x.a < y.a ∨ x.a = y.a ∧ (x.b < y.b ∨ x.b = y.b ∧ x.k < y.k)
theorem cfM_lt (x y : Mt) : cfM x y < 0 ↔ ltM x y := by
  unfold cfM cm3 ltM cm
  constructor
  · intro h; split at h <;> split at h <;> (try split at h) <;> (try split at h) <;> (try split at h) <;> (try split at h) <;> omega
  · intro h; split <;> split <;> (try split) <;> (try split) <;> (try split) <;> (try split) <;> omega
theorem cfM_ltB (x y : Mt) : ltOf cfM x y = true ↔ ltM x y := by unfold ltOf; rw [← cfM_lt]; simp
theorem cfM_swo : Go.Sort.SWO (ltOf cfM) where
  irrefl x := by
    cases h : ltOf cfM x x
    · rfl
    · have := (cfM_ltB x x).1 h; unfold ltM at this; omega
  trans x y z h1 h2 := by rw [cfM_ltB] at *; unfold ltM at *; omega
  ntrans x y z h1 h2 := by
    cases h : ltOf cfM x z
    · rfl
    · have h3 : ¬ ltM x y := fun q => by rw [← cfM_ltB, h1] at q; cases q
      have h4 : ¬ ltM y z := fun q => by rw [← cfM_ltB, h2] at q; cases q
      have h5 := (cfM_ltB x z).1 h
      unfold ltM at *; omega
theorem fm_app {α β : Type} (a b : α → List β) : ∀ l : List α, (l.flatMap fun i => a i ++ b i).Perm (l.flatMap a ++ l.flatMap b)
  | [] => List.Perm.refl _
  | x :: l => by
    rw [List.flatMap_cons, List.flatMap_cons, List.flatMap_cons, List.append_assoc, List.append_assoc]
    refine List.Perm.append_left _ ?_
    refine ((fm_app a b l).append_left (b x)).trans ?_
    rw [← List.append_assoc, ← List.append_assoc]
    exact List.perm_append_comm.append_right _
theorem fm_congr {α β : Type} {f g : α → List β} : ∀ {l : List α}, (∀ x ∈ l, f x = g x) → l.flatMap f = l.flatMap g
  | [], _ => rfl
  | x :: l, h => by rw [List.flatMap_cons, List.flatMap_cons, h x (by simp), fm_congr (fun y hy => h y (by simp [hy]))]
theorem tri_perm {β : Type} (f : Nat → Nat → List β) : ∀ n, ((List.range n).flatMap fun j => (List.range j).flatMap fun i => f i j).Perm ((List.range n).flatMap fun i => (List.range' (i + 1) (n - (i + 1))).flatMap fun j => f i j)
  | 0 => List.Perm.refl _
  | n + 1 => by
    rw [List.range_succ, List.flatMap_append, List.flatMap_append]
    have e : ((List.range n).flatMap fun i => (List.range' (i + 1) (n + 1 - (i + 1))).flatMap fun j => f i j) = (List.range n).flatMap fun i => ((List.range' (i + 1) (n - (i + 1))).flatMap fun j => f i j) ++ f i n := by
      refine fm_congr fun i hi => ?_
      have hi' : i < n := by simpa using hi
      rw [show n + 1 - (i + 1) = (n - (i + 1)) + 1 by omega, List.range'_concat, List.flatMap_append]
      have e2 : i + 1 + 1 * (n - (i + 1)) = n := by omega
      rw [e2]; simp
    rw [e]
    have e3 : ([n] : List Nat).flatMap (fun i => (List.range' (i + 1) (n + 1 - (i + 1))).flatMap fun j => f i j) = [] := by simp
    have e4 : ([n] : List Nat).flatMap (fun j => (List.range j).flatMap fun i => f i j) = (List.range n).flatMap fun i => f i n := by simp
    rw [e3, e4, List.append_nil]
    exact ((tri_perm f n).append_right _).trans (fm_app _ _ _).symm
theorem tri_asc (f : Nat → Nat → List Mt) (n : Nat) (hm : ∀ i j x, x ∈ f i j → x.a = i ∧ x.b = j) (hk : ∀ i j, (f i j).Pairwise (fun x y => x.k < y.k)) :
    ((List.range n).flatMap fun i => (List.range' (i + 1) (n - (i + 1))).flatMap fun j => f i j).Pairwise ltM := by
  have hin : ∀ i x, x ∈ ((List.range' (i + 1) (n - (i + 1))).flatMap fun j => f i j) → x.a = i := fun i x hx => by
    obtain ⟨j, _, h⟩ := List.mem_flatMap.1 hx; exact (hm i j x h).1
  refine List.pairwise_flatMap.2 ⟨fun i _ => List.pairwise_flatMap.2 ⟨fun j _ => ?_, ?_⟩, ?_⟩
  · refine (List.Pairwise.imp_of_mem ?_ (hk i j))
    intro x y hx hy h
    have h1 := hm i j x hx; have h2 := hm i j y hy
    exact .inr ⟨by omega, .inr ⟨by omega, h⟩⟩
  · refine List.Pairwise.imp ?_ (List.pairwise_lt_range' (s := i + 1) (n := n - (i + 1)))
    intro j j' hj x hx y hy
    have h1 := hm i j x hx; have h2 := hm i j' y hy
    exact .inr ⟨by omega, .inl (by omega)⟩
  · refine List.Pairwise.imp ?_ (List.pairwise_lt_range (n := n))
    intro i i' hi x hx y hy
    have h1 := hin i x hx; have h2 := hin i' y hy
    exact .inl (by omega)
def confS (l : List Voy) (ns : List Nar) (i j : Nat) : List Mt := ((List.range ns.length).filter fun k => barsV (nth l i) (nth l j) (nth ns k)).map fun k => ⟨i, j, k⟩
/-- All meetings that may happen and must not, in their order. -/
def confL (l : List Voy) (ns : List Nar) : List Mt := (List.range l.length).flatMap fun i => (List.range' (i + 1) (l.length - (i + 1))).flatMap fun j => confS l ns i j
def segM (vs : List HVoy) (ns : List Nar) (rows : List HSt) (i j : Nat) : List Mt := (((List.range ns.length).filter (barB vs ns rows i j)).filter fun k => mayB (nth (nth rows i).ss k) (nth (nth rows j).ss k)).map fun k => ⟨i, j, k⟩
def confJ (vs : List HVoy) (ns : List Nar) (rows : List HSt) (n : Nat) : List Mt := (List.range n).flatMap fun j => (List.range j).flatMap fun i => segM vs ns rows i j
theorem confJ_succ {vs : List HVoy} {ns : List Nar} {rows : List HSt} (n : Nat) : confJ vs ns rows (n + 1) = confJ vs ns rows n ++ (List.range n).flatMap fun i => segM vs ns rows i n := by
  unfold confJ; rw [List.range_succ, List.flatMap_append]; simp
theorem seg_succ {vs : List HVoy} {ns : List Nar} {rows : List HSt} (j n : Nat) : ((List.range (n + 1)).flatMap fun i => segM vs ns rows i j) = ((List.range n).flatMap fun i => segM vs ns rows i j) ++ segM vs ns rows n j := by
  rw [List.range_succ, List.flatMap_append]; simp
theorem seg_of {vs : List HVoy} {ns : List Nar} {rows : List HSt} {i j : Nat} {xs : List (Ix ns.length)} (h : xs.map (·.1) = (List.range ns.length).filter (barB vs ns rows i j)) :
    ((xs.filter fun x => mayB (nth (nth rows i).ss x.1) (nth (nth rows j).ss x.1)).map fun x => (⟨i, j, x.1⟩ : Mt)) = segM vs ns rows i j := by
  unfold segM; rw [← h, List.filter_map, List.map_map]; rfl
theorem seg_conf {vs : List HVoy} {ns : List Nar} {rows : List HSt} (hr : rows.map (·.ss) = vs.map (fun h => ns.map (thrS h.v))) {i j : Nat} (hi : i < vs.length) (hj : j < vs.length) : segM vs ns rows i j = confS (vs.map HVoy.v) ns i j := by
  have hrow : ∀ {q : Nat}, q < vs.length → (nth rows q).ss = ns.map (thrS (nth vs q).v) := fun {q} hq => by
    have hl : rows.length = vs.length := by simpa using congrArg List.length hr
    have := congrArg (fun l => l[q]?) hr
    simp only [List.getElem?_map] at this
    rw [List.getElem?_eq_getElem (by omega), List.getElem?_eq_getElem hq] at this
    rw [nth_eq (by omega), nth_eq hq]
    simpa using this
  have hst : ∀ {q k : Nat}, q < vs.length → k < ns.length → nth (nth rows q).ss k = thrS (nth vs q).v (nth ns k) := fun {q k} hq hk => by
    rw [hrow hq]; unfold nth; simp [List.getD_eq_getElem?_getD, hk]
  have hv : ∀ {q : Nat}, q < vs.length → nth (vs.map HVoy.v) q = (nth vs q).v := fun {q} hq => by
    rw [nth_eq (by simpa using hq), nth_eq hq]; simp
  unfold segM confS
  rw [List.filter_filter]
  refine congrArg (List.map _) (List.filter_congr fun k hk => ?_)
  have hk' : k < ns.length := by simpa using hk
  rw [hst hi hk', hst hj hk', hv hi, hv hj]
  unfold barB barsV
  rw [hst hi hk', hst hj hk']
  unfold mayB
  rw [Bool.eq_iff_iff]
  simp only [Bool.and_eq_true, Bool.or_eq_true, decide_eq_true_eq]
  constructor
  · rintro ⟨h1, ⟨h2, h3⟩, h4⟩; exact ⟨h1, h2⟩
  · rintro ⟨h1, h2⟩; exact ⟨h1, ⟨h2, h1.1.1.1⟩, h1.1.1.2⟩
theorem conf_sorted {vs : List HVoy} {ns : List Nar} {rows : List HSt} (hr : rows.map (·.ss) = vs.map (fun h => ns.map (thrS h.v))) {ys : List Mt} (hp : ys.Perm (confJ vs ns rows vs.length)) (ha : Asc cfM ys) : ys = confL (vs.map HVoy.v) ns := by
  have e : confJ vs ns rows vs.length = (List.range vs.length).flatMap fun j => (List.range j).flatMap fun i => confS (vs.map HVoy.v) ns i j := by
    unfold confJ
    refine fm_congr fun j hj => fm_congr fun i hi => ?_
    have h1 : j < vs.length := by simpa using hj
    have h2 : i < j := by simpa using hi
    exact seg_conf hr (by omega) h1
  have hp2 : ys.Perm (confL (vs.map HVoy.v) ns) := by
    refine hp.trans ?_
    rw [e]
    unfold confL
    rw [List.length_map]
    exact tri_perm _ _
  have hL : (confL (vs.map HVoy.v) ns).Pairwise ltM := by
    unfold confL
    refine tri_asc _ _ (fun i j x hx => ?_) (fun i j => ?_)
    · unfold confS at hx
      obtain ⟨k, _, rfl⟩ := List.mem_map.1 hx
      exact ⟨rfl, rfl⟩
    · unfold confS
      rw [List.pairwise_map]
      exact (List.pairwise_lt_range).filter _
  refine List.Perm.eq_of_pairwise (le := fun x y => ¬ ltM y x) ?_ ?_ (hL.imp ?_) hp2
  · intro x y _ _ h1 h2
    obtain ⟨a, b, c⟩ := x
    obtain ⟨a', b', c'⟩ := y
    unfold ltM at h1 h2
    simp only at h1 h2
    simp only [Mt.mk.injEq]
    omega
  · rw [List.pairwise_iff_getElem]
    intro i j hi hj hij h
    have h3 := ha i j hij hj
    rw [cfM_lt, nth_eq hi, nth_eq hj] at h3
    exact h3 h
  · intro x y h h2
    unfold ltM at h h2; omega

theorem own89 : Own Try.prog 89 := ⟨Try.f89, Try.func89, by kernel_rfl, by kernel_rfl⟩
theorem own91 : Own Try.prog 91 := ⟨Try.f91, Try.func91, by kernel_rfl, by kernel_rfl⟩
theorem own111 : Own Try.prog 111 := ⟨Try.f111, Try.func111, by kernel_rfl, by kernel_rfl⟩
theorem own129 : Own Try.prog 129 := ⟨Try.f129, Try.func129, by kernel_rfl, by kernel_rfl⟩

theorem isNaN_c (x : Int) (w0 : World) :
    CallsV Try.prog 129 [.int .i64 x] w0 (fun v w' => v = .bool false ∧ w' = w0) := by
 refine f_enter (N := 6) Try.func129 rfl rfl rfl ?_
 change WC _ _ _ _ _ _ [(0, .int .i64 x)] _
 refine c_seq fun K1 hK1 => (c_region (t_assign rfl rfl rfl (t_nil' (hK1 _ _ (c_seq fun K2 hK2 => (c_region (t_move rfl rfl rfl (t_move rfl rfl rfl (t_cmp rfl rfl rfl rfl rfl (t_samehd (v := .bool false) (by simp) (t_assign rfl rfl rfl (t_nil' (hK2 _ _ (c_ret (f_ret1 (v := .bool false) Try.results129 rfl ?_)))))))))))))))
 exact ⟨rfl, rfl⟩

theorem cmpI_c (x y : Int) (w0 : World) :
    CallsV Try.prog 111 [.int .i64 x, .int .i64 y] w0 (fun v w' => v = .int .i64 (cm x y) ∧ w' = w0) := by
 refine f_enter (N := 20) Try.func111 rfl rfl rfl ?_
 change WC _ _ _ _ _ _ [(0, .int .i64 x), (1, .int .i64 y)] _
 refine c_seq fun K1 hK1 => (c_region (t_assign rfl rfl rfl (t_nil' (hK1 _ _ (c_seq fun K2 hK2 => (c_region (t_move rfl rfl rfl (t_call (vs := [.int .i64 x]) own129 rfl rfl rfl rfl (isNaN_c x _) (fun v3 w4 r6 => ?_)))))))))
 obtain ⟨rfl, rfl⟩ := r6
 refine t_assign rfl rfl rfl (t_nil' (hK2 _ _ (c_seq fun K7 hK7 => (c_region (t_move rfl rfl rfl (t_call (vs := [.int .i64 y]) own129 rfl rfl rfl rfl (isNaN_c y _) (fun v8 w9 r11 => ?_)))))))
 obtain ⟨rfl, rfl⟩ := r11
 refine t_assign rfl rfl rfl (t_nil' (hK7 _ _ (c_seq fun K12 hK12 => (c_seq fun K13 hK13 => (c_region (t_move rfl rfl rfl (t_nil' (hK13 _ _ (c_cond_f rfl (c_skip (hK12 _ _ (c_seq fun K14 hK14 => (c_seq fun K15 hK15 => (c_region (t_move rfl rfl rfl (t_nil' (hK15 _ _ (c_cond_f rfl (c_skip (hK14 _ _ (c_seq fun K16 hK16 => (c_seq fun K17 hK17 => (c_region ?_)))))))))))))))))))))))
 refine t_move rfl rfl rfl (t_move rfl rfl rfl (t_cmp rfl rfl rfl rfl rfl (t_nil' (hK17 _ _ (c_condp rfl (fun g16 => ?_) (fun g16 => ?_))))))
 ·
  refine c_seq fun K18 hK18 => (c_region (t_assign rfl rfl rfl (t_nil' (hK18 _ _ (c_ret (f_ret1 (v := .int .i64 (-1)) Try.results111 rfl ?_))))))
  exact ⟨congrArg (Value.int .i64) (by unfold cm; split <;> (try split) <;> omega), rfl⟩
 ·
  refine c_skip (hK16 _ _ (c_seq fun K19 hK19 => (c_seq fun K20 hK20 => (c_region (t_move rfl rfl rfl (t_move rfl rfl rfl (t_cmp rfl rfl rfl rfl rfl (t_nil' (hK20 _ _ (c_condp rfl (fun g19 => ?_) (fun g19 => ?_)))))))))))
  ·
   refine c_seq fun K21 hK21 => (c_region (t_assign rfl rfl rfl (t_nil' (hK21 _ _ (c_ret (f_ret1 (v := .int .i64 1) Try.results111 rfl ?_))))))
   exact ⟨congrArg (Value.int .i64) (by unfold cm; split <;> (try split) <;> omega), rfl⟩
  ·
   refine c_skip (hK19 _ _ (c_seq fun K22 hK22 => (c_region (t_assign rfl rfl rfl (t_nil' (hK22 _ _ (c_ret (f_ret1 (v := .int .i64 0) Try.results111 rfl ?_))))))))
   exact ⟨congrArg (Value.int .i64) (by unfold cm; split <;> (try split) <;> omega), rfl⟩

theorem compare3_c (x1 x2 x3 y1 y2 y3 : Int) (bx cy : Nat) (w0 : World) (hx : Blk w0 bx 3 [.int .i64 x1, .int .i64 x2, .int .i64 x3]) (hy : Blk w0 cy 3 [.int .i64 y1, .int .i64 y2, .int .i64 y3]) :
    CallsV Try.prog 91 [.slice (some ⟨bx, 0, none⟩) 3 3, .slice (some ⟨cy, 0, none⟩) 3 3] w0 (fun v w' => v = .int .i64 (cm3 x1 x2 x3 y1 y2 y3) ∧ w' = w0) := by
 refine f_enter (N := 36) Try.func91 rfl rfl rfl ?_
 change WC _ _ _ _ _ _ [(0, .slice (some ⟨bx, 0, none⟩) 3 3), (1, .slice (some ⟨cy, 0, none⟩) 3 3)] _
 refine c_seq fun K1 hK1 => (c_region (t_assign rfl rfl rfl (t_nil' (hK1 _ _ (c_seq fun K2 hK2 => (c_seq fun K3 hK3 => (c_region (t_move rfl rfl rfl (t_len Try.underlying27 rfl rfl rfl rfl (t_move rfl rfl rfl (t_nil' (hK3 _ _ (c_block (c_rounds 5 (WR.weak [(0, .slice (some ⟨bx, 0, none⟩) 3 3), (1, .slice (some ⟨cy, 0, none⟩) 3 3), (9, .slice (some ⟨bx, 0, none⟩) 3 3), (10, .int .i64 3), (11, .int .i64 0)] ⟨rfl, rfl, rfl, rfl, rfl, trivial⟩ (r_round fun K4 hK4 => (c_seq fun K5 hK5 => (c_region (t_cmp rfl rfl rfl rfl rfl (t_samehd (v := .bool true) rfl (t_nil' (hK5 _ _ (c_seq fun K6 hK6 => ?_)))))))))))))))))))))))
 refine c_cond_t rfl (c_skip (hK6 _ _ (c_seq fun K7 hK7 => (c_block (c_seq fun K8 hK8 => (c_region (t_move rfl rfl rfl (t_index (j := 0) Try.underlying27 Try.sizeOf3 rfl rfl rfl rfl rfl rfl (by omega) (t_load Try.isAgg3 rfl rfl rfl (hx.get rfl) (t_assign rfl rfl rfl (t_assign rfl rfl rfl (t_nil' (hK8 _ _ (c_seq fun K9 hK9 => (c_seq fun K10 hK10 => (c_region (t_move rfl rfl rfl (t_move rfl rfl rfl (t_len Try.underlying27 rfl rfl rfl rfl (t_cmp rfl rfl rfl rfl rfl (t_samehd (v := .bool false) rfl (t_nil' (hK10 _ _ ?_)))))))))))))))))))))))
 refine c_cond_f rfl (c_skip (hK9 _ _ (c_seq fun K11 hK11 => (c_region (t_move rfl rfl rfl (t_move rfl rfl rfl (t_index (j := 0) Try.underlying27 Try.sizeOf3 rfl rfl rfl rfl rfl rfl (by omega) (t_load Try.isAgg3 rfl rfl rfl (hy.get rfl) (t_assign rfl rfl rfl (t_nil' (hK11 _ _ (c_seq fun K12 hK12 => (c_region (t_move rfl rfl rfl (t_move rfl rfl rfl (t_call (vs := [.int .i64 x1, .int .i64 y1]) own111 rfl rfl rfl rfl (cmpI_c x1 y1 _) (fun v13 w14 r16 => ?_)))))))))))))))))
 obtain ⟨rfl, rfl⟩ := r16
 refine t_assign rfl rfl rfl (t_nil' (hK12 _ _ (c_seq fun K17 hK17 => (c_region (t_move rfl rfl rfl (t_cmp rfl rfl rfl rfl rfl (t_nil' (hK17 _ _ (c_condp rfl (fun g28 => ?_) (fun g28 => ?_))))))))))
 ·
  refine c_seq fun K18 hK18 => (c_region (t_move rfl rfl rfl (t_assign rfl rfl rfl (t_nil' (hK18 _ _ (c_ret (f_ret1 (v := .int .i64 (cm x1 y1)) Try.results91 rfl ?_)))))))
  exact ⟨congrArg (Value.int .i64) (by unfold cm3; simp_all), rfl⟩
 ·
  refine c_skip (hK7 _ _ (c_region (t_ari rfl rfl rfl rfl rfl (by omega) (t_samehd (v := .int .i64 1) rfl (t_move rfl rfl rfl (t_nil' (hK4 _ _ (WR.weak [(0, .slice (some ⟨bx, 0, none⟩) 3 3), (1, .slice (some ⟨cy, 0, none⟩) 3 3), (9, .slice (some ⟨bx, 0, none⟩) 3 3), (10, .int .i64 3), (11, .int .i64 1)] ⟨rfl, rfl, rfl, rfl, rfl, trivial⟩ (r_round fun K19 hK19 => (c_seq fun K20 hK20 => (c_region (t_cmp rfl rfl rfl rfl rfl (t_samehd (v := .bool true) rfl (t_nil' (hK20 _ _ (c_seq fun K21 hK21 => (c_cond_t rfl (c_skip (hK21 _ _ (c_seq fun K22 hK22 => (c_block (c_seq fun K23 hK23 => (c_region ?_)))))))))))))))))))))))
  refine t_move rfl rfl rfl (t_index (j := 1) Try.underlying27 Try.sizeOf3 rfl rfl rfl rfl rfl rfl (by omega) (t_load Try.isAgg3 rfl rfl rfl (hx.get rfl) (t_assign rfl rfl rfl (t_assign rfl rfl rfl (t_nil' (hK23 _ _ (c_seq fun K24 hK24 => (c_seq fun K25 hK25 => (c_region (t_move rfl rfl rfl (t_move rfl rfl rfl (t_len Try.underlying27 rfl rfl rfl rfl (t_cmp rfl rfl rfl rfl rfl (t_samehd (v := .bool false) rfl (t_nil' (hK25 _ _ (c_cond_f rfl (c_skip (hK24 _ _ (c_seq fun K26 hK26 => (c_region (t_move rfl rfl rfl (t_move rfl rfl rfl ?_)))))))))))))))))))))))
  refine t_index (j := 1) Try.underlying27 Try.sizeOf3 rfl rfl rfl rfl rfl rfl (by omega) (t_load Try.isAgg3 rfl rfl rfl (hy.get rfl) (t_assign rfl rfl rfl (t_nil' (hK26 _ _ (c_seq fun K27 hK27 => (c_region (t_move rfl rfl rfl (t_move rfl rfl rfl (t_call (vs := [.int .i64 x2, .int .i64 y2]) own111 rfl rfl rfl rfl (cmpI_c x2 y2 _) (fun v28 w29 r31 => ?_))))))))))
  obtain ⟨rfl, rfl⟩ := r31
  refine t_assign rfl rfl rfl (t_nil' (hK27 _ _ (c_seq fun K32 hK32 => (c_region (t_move rfl rfl rfl (t_cmp rfl rfl rfl rfl rfl (t_nil' (hK32 _ _ (c_condp rfl (fun g28 => ?_) (fun g28 => ?_))))))))))
  ·
   refine c_seq fun K33 hK33 => (c_region (t_move rfl rfl rfl (t_assign rfl rfl rfl (t_nil' (hK33 _ _ (c_ret (f_ret1 (v := .int .i64 (cm x2 y2)) Try.results91 rfl ?_)))))))
   exact ⟨congrArg (Value.int .i64) (by unfold cm3; simp_all), rfl⟩
  ·
   refine c_skip (hK22 _ _ (c_region (t_ari rfl rfl rfl rfl rfl (by omega) (t_samehd (v := .int .i64 2) rfl (t_move rfl rfl rfl (t_nil' (hK19 _ _ (WR.weak [(0, .slice (some ⟨bx, 0, none⟩) 3 3), (1, .slice (some ⟨cy, 0, none⟩) 3 3), (9, .slice (some ⟨bx, 0, none⟩) 3 3), (10, .int .i64 3), (11, .int .i64 2)] ⟨rfl, rfl, rfl, rfl, rfl, trivial⟩ (r_round fun K34 hK34 => (c_seq fun K35 hK35 => (c_region (t_cmp rfl rfl rfl rfl rfl (t_samehd (v := .bool true) rfl (t_nil' (hK35 _ _ (c_seq fun K36 hK36 => (c_cond_t rfl (c_skip (hK36 _ _ (c_seq fun K37 hK37 => (c_block (c_seq fun K38 hK38 => (c_region ?_)))))))))))))))))))))))
   refine t_move rfl rfl rfl (t_index (j := 2) Try.underlying27 Try.sizeOf3 rfl rfl rfl rfl rfl rfl (by omega) (t_load Try.isAgg3 rfl rfl rfl (hx.get rfl) (t_assign rfl rfl rfl (t_assign rfl rfl rfl (t_nil' (hK38 _ _ (c_seq fun K39 hK39 => (c_seq fun K40 hK40 => (c_region (t_move rfl rfl rfl (t_move rfl rfl rfl (t_len Try.underlying27 rfl rfl rfl rfl (t_cmp rfl rfl rfl rfl rfl (t_samehd (v := .bool false) rfl (t_nil' (hK40 _ _ (c_cond_f rfl (c_skip (hK39 _ _ (c_seq fun K41 hK41 => (c_region (t_move rfl rfl rfl (t_move rfl rfl rfl ?_)))))))))))))))))))))))
   refine t_index (j := 2) Try.underlying27 Try.sizeOf3 rfl rfl rfl rfl rfl rfl (by omega) (t_load Try.isAgg3 rfl rfl rfl (hy.get rfl) (t_assign rfl rfl rfl (t_nil' (hK41 _ _ (c_seq fun K42 hK42 => (c_region (t_move rfl rfl rfl (t_move rfl rfl rfl (t_call (vs := [.int .i64 x3, .int .i64 y3]) own111 rfl rfl rfl rfl (cmpI_c x3 y3 _) (fun v43 w44 r46 => ?_))))))))))
   obtain ⟨rfl, rfl⟩ := r46
   refine t_assign rfl rfl rfl (t_nil' (hK42 _ _ (c_seq fun K47 hK47 => (c_region (t_move rfl rfl rfl (t_cmp rfl rfl rfl rfl rfl (t_nil' (hK47 _ _ (c_condp rfl (fun g28 => ?_) (fun g28 => ?_))))))))))
   ·
    refine c_seq fun K48 hK48 => (c_region (t_move rfl rfl rfl (t_assign rfl rfl rfl (t_nil' (hK48 _ _ (c_ret (f_ret1 (v := .int .i64 (cm x3 y3)) Try.results91 rfl ?_)))))))
    exact ⟨congrArg (Value.int .i64) (by unfold cm3; simp_all), rfl⟩
   ·
    refine c_skip (hK37 _ _ (c_region (t_ari rfl rfl rfl rfl rfl (by omega) (t_samehd (v := .int .i64 3) rfl (t_move rfl rfl rfl (t_nil' (hK34 _ _ (WR.weak [(0, .slice (some ⟨bx, 0, none⟩) 3 3), (1, .slice (some ⟨cy, 0, none⟩) 3 3), (9, .slice (some ⟨bx, 0, none⟩) 3 3), (10, .int .i64 3), (11, .int .i64 3)] ⟨rfl, rfl, rfl, rfl, rfl, trivial⟩ (r_round fun K49 hK49 => (c_seq fun K50 hK50 => (c_region (t_cmp rfl rfl rfl rfl rfl (t_samehd (v := .bool false) rfl (t_nil' (hK50 _ _ (c_seq fun K51 hK51 => (c_cond_f rfl (c_exit (hK2 _ _ (c_seq fun K52 hK52 => (c_seq fun K53 hK53 => (c_region (t_move rfl rfl rfl ?_)))))))))))))))))))))))
    refine t_len Try.underlying27 rfl rfl rfl rfl (t_move rfl rfl rfl (t_len Try.underlying27 rfl rfl rfl rfl (t_cmp rfl rfl rfl rfl rfl (t_samehd (v := .bool false) rfl (t_nil' (hK53 _ _ (c_cond_f rfl (c_skip (hK52 _ _ (c_seq fun K54 hK54 => (c_region (t_assign rfl rfl rfl (t_nil' (hK54 _ _ (c_ret (f_ret1 (v := .int .i64 0) Try.results91 rfl ?_))))))))))))))))
    exact ⟨congrArg (Value.int .i64) (by unfold cm3; simp_all), rfl⟩

section
variable {P : Program} {ops : Array Oper} {Q : Exit → Act → World → Prop} {N : Nat} {ds : List Deferred} {rest : List Oper} {L : Slots} {w : World} {rd : Option Nat} {d : Nat} {ty : TypeId} {pos : String} {aft : Array Edge} {g : Option (Nat × Bool)}
theorem t_bsliceX {t e : TypeId} {n : Nat} {parts : Array (Nat × Operand)} {ps : List (Nat × Value)} {cs : List Value} (hg : grd ops L g = true) (hN : Nat.blt d N = true)
    (hp : evs L (parts.toList.map (·.2)) = some (ps.map (·.2)) ∧ parts.toList.map (·.1) = ps.map (·.1))
    (hr : ∀ w, (Instr.buildSlice t n ps.toArray).run P w = .ok (.slice (some ⟨w.heap.size, 0, none⟩) n n) (w.alloc (.cells cs.toArray e)))
    (h : WL rd P ops Q N ds rest ((d, .slice (some ⟨w.heap.size, 0, none⟩) n n) :: L) (w.alloc (.cells cs.toArray e))) : WL rd P ops Q N ds (⟨some d, .buildSlice t n parts, ty, pos, aft, g⟩ :: rest) L w :=
  WL.value hg rfl hN (fun a hk => by
    have e : parts.map (fun (i, x) => (i, a.eval x)) = ps.toArray := parts_ev hk hp.1 hp.2
    simp only [execOp]
    rw [e]
    simp [hr]) h
end
set_option maxHeartbeats 4000000 in
theorem conf1_ok : CmpOk Try.prog 90 encMt cfM := by
  intro x y W
  have h : CallsV Try.prog 90 [.agg #[.int .i64 (x.a : Int), .int .i64 (x.b : Int), .int .i64 (x.k : Int)], .agg #[.int .i64 (y.a : Int), .int .i64 (y.b : Int), .int .i64 (y.k : Int)]] W (fun v w' => v = .int .i64 (cfM x y) ∧ w' = ((((W.alloc (.cells [.int .i64 (x.a : Int), .int .i64 (x.b : Int), .int .i64 (x.k : Int)].toArray 162)).alloc (.cells [.int .i64 (y.a : Int), .int .i64 (y.b : Int), .int .i64 (y.k : Int)].toArray 162)).alloc (.cells [.int .i64 (x.a : Int), .int .i64 (x.b : Int), .int .i64 (x.k : Int)].toArray 3)).alloc (.cells [.int .i64 (y.a : Int), .int .i64 (y.b : Int), .int .i64 (y.k : Int)].toArray 3))) := by
    refine f_enter (N := 20) Try.func90 rfl rfl rfl ?_
    change WC _ _ _ _ _ _ [(0, .agg #[.int .i64 (x.a : Int), .int .i64 (x.b : Int), .int .i64 (x.k : Int)]), (1, .agg #[.int .i64 (y.a : Int), .int .i64 (y.b : Int), .int .i64 (y.k : Int)])] _
    refine c_seq fun K1 hK1 => ?_
    refine c_region ?_
    refine t_boxX (cs := [.int .i64 (x.a : Int), .int .i64 (x.b : Int), .int .i64 (x.k : Int)]) rfl rfl rfl rfl ?_
    refine t_boxX (cs := [.int .i64 (y.a : Int), .int .i64 (y.b : Int), .int .i64 (y.k : Int)]) rfl rfl rfl rfl ?_
    refine t_assign rfl rfl rfl ?_
    refine t_nil' ?_
    refine hK1 _ _ ?_
    have B1 : Blk ((W.alloc (.cells [.int .i64 (x.a : Int), .int .i64 (x.b : Int), .int .i64 (x.k : Int)].toArray 162)).alloc (.cells [.int .i64 (y.a : Int), .int .i64 (y.b : Int), .int .i64 (y.k : Int)].toArray 162)) W.heap.size 162 [.int .i64 (x.a : Int), .int .i64 (x.b : Int), .int .i64 (x.k : Int)] := (Blk.new W 162 _).keep (Upd.alloc _ _) (fun h => h)
    have B2 : Blk ((W.alloc (.cells [.int .i64 (x.a : Int), .int .i64 (x.b : Int), .int .i64 (x.k : Int)].toArray 162)).alloc (.cells [.int .i64 (y.a : Int), .int .i64 (y.b : Int), .int .i64 (y.k : Int)].toArray 162)) (W.alloc (.cells [.int .i64 (x.a : Int), .int .i64 (x.b : Int), .int .i64 (x.k : Int)].toArray 162)).heap.size 162 [.int .i64 (y.a : Int), .int .i64 (y.b : Int), .int .i64 (y.k : Int)] := Blk.new _ _ _
    refine c_seq fun K2 hK2 => ?_
    refine c_region ?_
    refine t_field Try.underlying162 rfl Try.sizeOf3 (0) rfl rfl rfl rfl ?_
    refine t_load Try.isAgg3 rfl rfl rfl (B1.get rfl) ?_
    refine t_field Try.underlying162 rfl Try.sizeOf3 (1) rfl rfl rfl rfl ?_
    refine t_load Try.isAgg3 rfl rfl rfl (B1.get rfl) ?_
    refine t_field Try.underlying162 rfl Try.sizeOf3 (2) rfl rfl rfl rfl ?_
    refine t_load Try.isAgg3 rfl rfl rfl (B1.get rfl) ?_
    refine t_bsliceX (ps := [(0, .int .i64 (x.a : Int)), (1, .int .i64 (x.b : Int)), (2, .int .i64 (x.k : Int))]) (cs := [.int .i64 (x.a : Int), .int .i64 (x.b : Int), .int .i64 (x.k : Int)]) (e := 3) rfl rfl ⟨rfl, rfl⟩ (fun w => by kernel_rfl) ?_
    have B3 : Blk (((W.alloc (.cells [.int .i64 (x.a : Int), .int .i64 (x.b : Int), .int .i64 (x.k : Int)].toArray 162)).alloc (.cells [.int .i64 (y.a : Int), .int .i64 (y.b : Int), .int .i64 (y.k : Int)].toArray 162)).alloc (.cells [.int .i64 (x.a : Int), .int .i64 (x.b : Int), .int .i64 (x.k : Int)].toArray 3)) ((W.alloc (.cells [.int .i64 (x.a : Int), .int .i64 (x.b : Int), .int .i64 (x.k : Int)].toArray 162)).alloc (.cells [.int .i64 (y.a : Int), .int .i64 (y.b : Int), .int .i64 (y.k : Int)].toArray 162)).heap.size 3 [.int .i64 (x.a : Int), .int .i64 (x.b : Int), .int .i64 (x.k : Int)] := Blk.new _ _ _
    have B4 : Blk (((W.alloc (.cells [.int .i64 (x.a : Int), .int .i64 (x.b : Int), .int .i64 (x.k : Int)].toArray 162)).alloc (.cells [.int .i64 (y.a : Int), .int .i64 (y.b : Int), .int .i64 (y.k : Int)].toArray 162)).alloc (.cells [.int .i64 (x.a : Int), .int .i64 (x.b : Int), .int .i64 (x.k : Int)].toArray 3)) (W.alloc (.cells [.int .i64 (x.a : Int), .int .i64 (x.b : Int), .int .i64 (x.k : Int)].toArray 162)).heap.size 162 [.int .i64 (y.a : Int), .int .i64 (y.b : Int), .int .i64 (y.k : Int)] := B2.keep (Upd.alloc _ _) (fun h => h)
    refine t_field Try.underlying162 rfl Try.sizeOf3 (0) rfl rfl rfl rfl ?_
    refine t_load Try.isAgg3 rfl rfl rfl (B4.get rfl) ?_
    refine t_field Try.underlying162 rfl Try.sizeOf3 (1) rfl rfl rfl rfl ?_
    refine t_load Try.isAgg3 rfl rfl rfl (B4.get rfl) ?_
    refine t_field Try.underlying162 rfl Try.sizeOf3 (2) rfl rfl rfl rfl ?_
    refine t_load Try.isAgg3 rfl rfl rfl (B4.get rfl) ?_
    refine t_bsliceX (ps := [(0, .int .i64 (y.a : Int)), (1, .int .i64 (y.b : Int)), (2, .int .i64 (y.k : Int))]) (cs := [.int .i64 (y.a : Int), .int .i64 (y.b : Int), .int .i64 (y.k : Int)]) (e := 3) rfl rfl ⟨rfl, rfl⟩ (fun w => by kernel_rfl) ?_
    have B5 : Blk ((((W.alloc (.cells [.int .i64 (x.a : Int), .int .i64 (x.b : Int), .int .i64 (x.k : Int)].toArray 162)).alloc (.cells [.int .i64 (y.a : Int), .int .i64 (y.b : Int), .int .i64 (y.k : Int)].toArray 162)).alloc (.cells [.int .i64 (x.a : Int), .int .i64 (x.b : Int), .int .i64 (x.k : Int)].toArray 3)).alloc (.cells [.int .i64 (y.a : Int), .int .i64 (y.b : Int), .int .i64 (y.k : Int)].toArray 3)) ((W.alloc (.cells [.int .i64 (x.a : Int), .int .i64 (x.b : Int), .int .i64 (x.k : Int)].toArray 162)).alloc (.cells [.int .i64 (y.a : Int), .int .i64 (y.b : Int), .int .i64 (y.k : Int)].toArray 162)).heap.size 3 [.int .i64 (x.a : Int), .int .i64 (x.b : Int), .int .i64 (x.k : Int)] := B3.keep (Upd.alloc _ _) (fun h => h)
    have B6 : Blk ((((W.alloc (.cells [.int .i64 (x.a : Int), .int .i64 (x.b : Int), .int .i64 (x.k : Int)].toArray 162)).alloc (.cells [.int .i64 (y.a : Int), .int .i64 (y.b : Int), .int .i64 (y.k : Int)].toArray 162)).alloc (.cells [.int .i64 (x.a : Int), .int .i64 (x.b : Int), .int .i64 (x.k : Int)].toArray 3)).alloc (.cells [.int .i64 (y.a : Int), .int .i64 (y.b : Int), .int .i64 (y.k : Int)].toArray 3)) (((W.alloc (.cells [.int .i64 (x.a : Int), .int .i64 (x.b : Int), .int .i64 (x.k : Int)].toArray 162)).alloc (.cells [.int .i64 (y.a : Int), .int .i64 (y.b : Int), .int .i64 (y.k : Int)].toArray 162)).alloc (.cells [.int .i64 (x.a : Int), .int .i64 (x.b : Int), .int .i64 (x.k : Int)].toArray 3)).heap.size 3 [.int .i64 (y.a : Int), .int .i64 (y.b : Int), .int .i64 (y.k : Int)] := Blk.new _ _ _
    refine t_call (vs := [.slice (some ⟨((W.alloc (.cells [.int .i64 (x.a : Int), .int .i64 (x.b : Int), .int .i64 (x.k : Int)].toArray 162)).alloc (.cells [.int .i64 (y.a : Int), .int .i64 (y.b : Int), .int .i64 (y.k : Int)].toArray 162)).heap.size, 0, none⟩) 3 3, .slice (some ⟨(((W.alloc (.cells [.int .i64 (x.a : Int), .int .i64 (x.b : Int), .int .i64 (x.k : Int)].toArray 162)).alloc (.cells [.int .i64 (y.a : Int), .int .i64 (y.b : Int), .int .i64 (y.k : Int)].toArray 162)).alloc (.cells [.int .i64 (x.a : Int), .int .i64 (x.b : Int), .int .i64 (x.k : Int)].toArray 3)).heap.size, 0, none⟩) 3 3]) own91 rfl rfl rfl rfl (compare3_c _ _ _ _ _ _ _ _ _ B5 B6) (fun v w' hv => ?_)
    obtain ⟨rfl, rfl⟩ := hv
    refine t_assign rfl rfl rfl ?_
    refine t_nil' ?_
    refine hK2 _ _ ?_
    refine c_ret ?_
    refine f_ret1 (v := .int .i64 (cfM x y)) Try.results90 rfl ?_
    exact ⟨rfl, rfl⟩
  refine Calls.mono h ?_
  rintro e w' ⟨v, rfl, rfl, rfl⟩
  exact ⟨rfl, 0, _, by rw [Go.Sort.alloc_eq_grow, Go.Sort.alloc_eq_grow, Go.Sort.alloc_eq_grow, Go.Sort.alloc_eq_grow, Go.Sort.grow_grow, Go.Sort.grow_grow, Go.Sort.grow_grow]; rfl⟩

set_option maxHeartbeats 4000000 in
theorem Conflicts_c (vs : List HVoy) (ns : List Nar) (av an : Option Addr) (bv ov bn on cv cn : Nat) (w0 : World) (hs : Sl encHVoy 5 w0 av bv ov vs) (hruns : ∀ x ∈ vs, Sl encRun 6 w0 x.ao x.b x.o x.v.runs) (hrl : ∀ x ∈ vs, x.v.runs.length ≤ 1000000) (hn : Sl encNar 4 w0 an bn on ns) (hvl : vs.length ≤ 1000000) (hnl : ns.length ≤ 1000000) :
    CallsV Try.prog 54 [.slice av vs.length cv, .slice an ns.length cn] w0 (fun v w' => ((OpenE (vs.map HVoy.v) ns ≠ 0 ∧ v = .tuple #[.slice none 0 0, .int .i64 (OpenE (vs.map HVoy.v) ns)]) ∨ (OpenE (vs.map HVoy.v) ns = 0 ∧ ∃ ao b cap, v = .tuple #[.slice ao (confL (vs.map HVoy.v) ns).length cap, .int .i64 0] ∧ Sl encMt 3 w' ao b 0 (confL (vs.map HVoy.v) ns))) ∧ Ext w0 w') := by
 have E0 := Upd.refl (fun _ => False) w0
 refine f_enterM (N := 66) Try.func54 rfl rfl rfl ?_
 change WC _ _ _ _ _ _ [(0, .slice av vs.length cv), (1, .slice an ns.length cn)] _
 refine c_seq fun K1 hK1 => (c_region (t_alloc (cs := [.slice none 0 0]) Try.zeroValue107 rfl rfl rfl (fun bk2 w3 ebk2 sbk2 B4 u5 => ?_)))
 have zu5 := u5.size
 have E6 := E0.next u5 (fun _ _ h => h.elim)
 refine t_assign rfl rfl rfl (t_nil' (hK1 _ _ (c_seq fun K7 hK7 => (c_region (t_move rfl rfl rfl (t_move rfl rfl rfl (t_call (vs := [.slice av vs.length cv, .slice an ns.length cn]) own62 rfl rfl rfl rfl (open_c vs ns av an bv ov bn on cv cn _ (hs.keep E6 (fun _ h => h)) (fun x hx => (hruns x hx).keep E6 (fun _ h => h)) hrl (hn.keep E6 (fun _ h => h)) hvl hnl) (fun v8 w9 r11 => ?_))))))))
 obtain ⟨p, rfl, hop, hop2, u10⟩ := r11
 have zu10 := u10.size
 have E12 := E6.next u10 (fun _ _ h => h.elim)
 obtain ⟨po, rfl⟩ : ∃ o, p = .pointer o := by
  by_cases h : OpenE (vs.map HVoy.v) ns = 0
  · obtain ⟨t, _, _, _, _, _, h1, _, _⟩ := hop h; exact ⟨_, h1⟩
  · exact ⟨_, hop2 h⟩
 refine t_move rfl rfl rfl (t_extract (vs := [.pointer po, .int .i64 (OpenE (vs.map HVoy.v) ns)]) rfl rfl rfl rfl (t_extract (vs := [.pointer po, .int .i64 (OpenE (vs.map HVoy.v) ns)]) rfl rfl rfl rfl (t_alloc (cs := [.pointer none]) Try.zeroValue124 rfl rfl rfl (fun bk13 w14 ebk13 sbk13 B15 u16 => ?_))))
 have zu16 := u16.size
 have E17 := E12.next u16 (fun _ _ h => h.elim)
 refine t_store (vs := [.pointer po]) Try.sizeOf124 rfl rfl rfl B15 rfl rfl (Nat.le_of_ble_eq_true rfl) (by simp [Value.oneCell']) (fun w18 sw18 B20 u19 => ?_)
 have zu19 := u19.size
 have E21 := E17.next u19 (fun i hi (h : i = bk13) => show False by first | omega | assumption)
 have B20 : Blk w18 bk13 124 [.pointer po] := B20
 refine t_assign rfl rfl rfl (t_nil' (hK7 _ _ (c_seq fun K22 hK22 => (c_seq fun K23 hK23 => (c_region (t_move rfl rfl rfl (t_cmp rfl rfl rfl rfl rfl (t_nil' (hK23 _ _ (c_condp rfl (fun g17 => ?_) (fun g17 => ?_)))))))))))
 ·
  refine c_seq fun K24 hK24 => (c_region (t_move rfl rfl rfl ?_))
  have B25 := (((B4.keep u10 (fun h => h)).keep u16 (fun h => h)).keep u19 (show ¬ (bk2 = bk13) by first | omega | assumption))
  refine t_store (vs := [.slice none 0 0]) Try.sizeOf107 rfl rfl rfl B25 rfl rfl (Nat.le_of_ble_eq_true rfl) (by simp [Value.oneCell']) (fun w26 sw26 B28 u27 => ?_)
  have zu27 := u27.size
  have E29 := E21.next u27 (fun i hi (h : i = bk2) => show False by first | omega | assumption)
  have B28 : Blk w26 bk2 107 [.slice none 0 0] := B28
  refine t_assign rfl rfl rfl (t_nil' (hK24 _ _ (c_ret ?_)))
  have hmkE := ((show Marks w0.heap.size [] w0 from trivial).keep ((((((Upd.refl (fun _ => False) _).next u5 (fun _ _ h => h.elim)).next u10 (fun _ _ h => h.elim)).next u16 (fun _ _ h => h.elim)).next u19 (fun i hi (h : i = bk13) => show False by first | omega | assumption)).next u27 (fun i hi (h : i = bk2) => show False by first | omega | assumption)) (CellsIn.none _))
  refine f_retMc2 (v1 := .slice none 0 0) (v2 := .int .i64 (OpenE (vs.map HVoy.v) ns)) Try.results54 (.cell ((show Marks w0.heap.size [] w0 from trivial).keep ((((((Upd.refl (fun _ => False) _).next u5 (fun _ _ h => h.elim)).next u10 (fun _ _ h => h.elim)).next u16 (fun _ _ h => h.elim)).next u19 (fun i hi (h : i = bk13) => show False by first | omega | assumption)).next u27 (fun i hi (h : i = bk2) => show False by first | omega | assumption)) (CellsIn.none _)) rfl Try.isAgg107 B28 rfl) (.tmp rfl) ((show Marks w0.heap.size [] w0 from trivial).keep ((((((Upd.refl (fun _ => False) _).next u5 (fun _ _ h => h.elim)).next u10 (fun _ _ h => h.elim)).next u16 (fun _ _ h => h.elim)).next u19 (fun i hi (h : i = bk13) => show False by first | omega | assumption)).next u27 (fun i hi (h : i = bk2) => show False by first | omega | assumption)) (CellsIn.none _)) (fun w30 u31 omw30 => ?_)
  have zu31 := u31.size
  have E32 := E29.next u31 (fun i hi (h : w0.heap.size ≤ i) => show False by first | omega | assumption)
  exact ⟨.inl ⟨g17, rfl⟩, E32⟩
 ·
  have B33 := (((B4.keep u10 (fun h => h)).keep u16 (fun h => h)).keep u19 (show ¬ (bk2 = bk13) by first | omega | assumption))
  have hE : OpenE (vs.map HVoy.v) ns = 0 := Decidable.not_not.1 g17
  obtain ⟨t, rows, lim, ar, br, cr, hpo, htr, hfT⟩ := hop hE
  obtain rfl : po = some ⟨t, 0, none⟩ := by simpa using hpo
  have hll := htr.ll
  have htl := htr.tl
  have hfew := htr.few
  have htb := htr.blk
  have hrw := htr.rowlen
  have hft1 := hfT.1
  have hl4 := B33.lt
  have hoff : TrafOff (fun i => i = bk2) t vs ns rows bv bn br := ⟨by have := hfT.1; omega, fun hp => by have := hs.lt hp; omega, fun hp => by have := hn.lt hp; omega, fun hp => by have := hfT.2.1 hp; omega, fun r hr hp => by have := hfT.2.2 r hr hp; omega⟩
  refine c_skip (hK22 _ _ (c_seq fun K34 hK34 => (c_seq fun K35 hK35 => (c_region (t_move rfl rfl rfl (t_len Try.underlying34 rfl rfl rfl rfl (t_move rfl rfl rfl (t_nil' (hK35 _ _ (c_block (c_loopm (γ := Nat × Option Addr × Nat × Nat × List Mt × List Deferred) (fun gg => [(4, .pointer (some ⟨bk2, 0, none⟩)), (6, .pointer (some ⟨bk13, 0, none⟩)), (20, .int .i64 (vs.length : Int)), (21, .int .i64 (gg.1 : Int))]) (fun gg => gg.2.2.2.2.2) (fun gg w => Upd (fun i => i = bk2) w18 w ∧ Blk w bk2 107 [.slice gg.2.1 gg.2.2.2.2.1.length gg.2.2.2.1] ∧ (gg.1 ≤ vs.length) ∧ (gg.2.2.2.2.1 = confJ vs ns rows gg.1) ∧ (gg.2.2.2.2.1.length ≤ 240 * gg.1) ∧ (Acc encMt 3 162 w18.heap.size w gg.2.1 gg.2.2.1 gg.2.2.2.1 gg.2.2.2.2.1) ∧ (Marks w0.heap.size gg.2.2.2.2.2 w)) (fun gg => vs.length - gg.1) (0, none, 0, 0, [], []) rfl ⟨rfl, rfl, rfl, rfl, trivial⟩ ⟨Upd.refl _ _, B33, (Nat.zero_le _), rfl, (Nat.zero_le _), (Acc.nil _ _ _ _ _ (by omega) (Nat.le_refl _)), ((show Marks w0.heap.size [] w0 from trivial).keep (((((Upd.refl (fun _ => False) _).next u5 (fun _ _ h => h.elim)).next u10 (fun _ _ h => h.elim)).next u16 (fun _ _ h => h.elim)).next u19 (fun i hi (h : i = bk13) => show False by first | omega | assumption)) (CellsIn.none _))⟩ ?_)))))))))))
  intro gg w37 hW K36 hK36
  obtain ⟨y, ao2, g2, c2, cs2, dl⟩ := gg
  change WC _ _ _ _ _ _ [(4, .pointer (some ⟨bk2, 0, none⟩)), (6, .pointer (some ⟨bk13, 0, none⟩)), (20, .int .i64 (vs.length : Int)), (21, .int .i64 (y : Int))] _
  change Upd (fun i => i = bk2) w18 w37 ∧ Blk w37 bk2 107 [.slice ao2 cs2.length c2] ∧ (y ≤ vs.length) ∧ (cs2 = confJ vs ns rows y) ∧ (cs2.length ≤ 240 * y) ∧ (Acc encMt 3 162 w18.heap.size w37 ao2 g2 c2 cs2) ∧ (Marks w0.heap.size dl w37) at hW
  obtain ⟨u38, I39, I40, I41, I42, I43, I44⟩ := hW
  have zu38 := u38.size
  have E45 := E21.next u38 (fun i hi (h : i = bk2) => show False by first | omega | assumption)
  have hy := I40; clear I40
  have hcs2 := I41; clear I41
  have hcl2 := I42; clear I42
  have hacc2 := I43; clear I43
  have hmk := I44; clear I44
  have lt_g2 := hacc2.lt
  refine c_seq fun K46 hK46 => (c_region (t_cmp rfl rfl rfl rfl rfl (t_nil' (hK46 _ _ (c_seq fun K47 hK47 => (c_condp rfl (fun g22 => ?_) (fun g22 => ?_)))))))
  ·
   refine c_skip (hK47 _ _ (c_seq fun K48 hK48 => (c_block (c_seq fun K49 hK49 => (c_region (t_move rfl rfl rfl (t_alloc (cs := [.int .i64 0]) Try.zeroValue3 rfl rfl rfl (fun bk50 w51 ebk50 sbk50 B52 u53 => ?_))))))))
   have zu53 := u53.size
   refine t_store (vs := [.int .i64 (y : Int)]) Try.sizeOf3 rfl rfl rfl B52 rfl rfl (Nat.le_of_ble_eq_true rfl) (by simp [Value.oneCell']) (fun w55 sw55 B57 u56 => ?_)
   have zu56 := u56.size
   have B57 : Blk w55 bk50 3 [.int .i64 (y : Int)] := B57
   refine t_nil' (hK49 _ _ (c_seq fun K59 hK59 => (c_region (t_load Try.isAgg3 rfl rfl rfl (B57.get rfl) (t_move rfl rfl rfl (t_nil' (hK59 _ _ (c_block ?_))))))))
   have D60 := ((hacc2.keep u53 (fun _ h => h)).keep u56 (fun hb => show ¬ (g2 = bk50) by first | omega | assumption))
   have B61 := ((I39.keep u53 (fun h => h)).keep u56 (show ¬ (bk2 = bk50) by first | omega | assumption))
   refine c_loopm (γ := Nat × Option Addr × Nat × Nat × List Mt × List Deferred) (fun gg => [(4, .pointer (some ⟨bk2, 0, none⟩)), (6, .pointer (some ⟨bk13, 0, none⟩)), (7, .pointer (some ⟨bk50, 0, none⟩)), (20, .int .i64 (vs.length : Int)), (21, .int .i64 (y : Int)), (24, .int .i64 (y : Int)), (25, .int .i64 (gg.1 : Int))]) (fun gg => gg.2.2.2.2.2) (fun gg w => Upd (fun i => i = bk2 ∨ (i = g2 ∧ w18.heap.size ≤ i)) w55 w ∧ Blk w bk2 107 [.slice gg.2.1 gg.2.2.2.2.1.length gg.2.2.2.1] ∧ (gg.1 ≤ y) ∧ (gg.2.2.2.2.1 = cs2 ++ (List.range gg.1).flatMap fun i => segM vs ns rows i y) ∧ (gg.2.2.2.2.1.length ≤ 240 * y + 20 * gg.1) ∧ (Acc encMt 3 162 w18.heap.size w gg.2.1 gg.2.2.1 gg.2.2.2.1 gg.2.2.2.2.1) ∧ (gg.2.2.1 = g2 ∨ w55.heap.size ≤ gg.2.2.1) ∧ (Marks w0.heap.size gg.2.2.2.2.2 w)) (fun gg => y - gg.1) (0, ao2, g2, c2, cs2, dl) rfl ⟨rfl, rfl, rfl, rfl, rfl, rfl, rfl, trivial⟩ ⟨Upd.refl _ _, B61, (Nat.zero_le _), (by simp), (by show cs2.length ≤ 240 * y + 20 * 0; omega), D60, (.inl rfl), (hmk.keep (((Upd.refl (fun _ => False) _).next u53 (fun _ _ h => h.elim)).next u56 (fun i hi (h : i = bk50) => show False by first | omega | assumption)) (CellsIn.none _))⟩ ?_
   intro gg w63 hW K62 hK62
   obtain ⟨z, ao3, g3, c3, cs3, dl3⟩ := gg
   change WC _ _ _ _ _ _ [(4, .pointer (some ⟨bk2, 0, none⟩)), (6, .pointer (some ⟨bk13, 0, none⟩)), (7, .pointer (some ⟨bk50, 0, none⟩)), (20, .int .i64 (vs.length : Int)), (21, .int .i64 (y : Int)), (24, .int .i64 (y : Int)), (25, .int .i64 (z : Int))] _
   change Upd (fun i => i = bk2 ∨ (i = g2 ∧ w18.heap.size ≤ i)) w55 w63 ∧ Blk w63 bk2 107 [.slice ao3 cs3.length c3] ∧ (z ≤ y) ∧ (cs3 = cs2 ++ (List.range z).flatMap fun i => segM vs ns rows i y) ∧ (cs3.length ≤ 240 * y + 20 * z) ∧ (Acc encMt 3 162 w18.heap.size w63 ao3 g3 c3 cs3) ∧ (g3 = g2 ∨ w55.heap.size ≤ g3) ∧ (Marks w0.heap.size dl3 w63) at hW
   obtain ⟨u64, I65, I66, I67, I68, I69, I70, I71⟩ := hW
   have zu64 := u64.size
   have hi := I66; clear I66
   have hcs3 := I67; clear I67
   have hcl3 := I68; clear I68
   have hacc3 := I69; clear I69
   have hg3 := I70; clear I70
   have hmk3 := I71; clear I71
   have lt_g3 := hacc3.lt
   refine c_seq fun K73 hK73 => (c_region (t_cmp rfl rfl rfl rfl rfl (t_nil' (hK73 _ _ (c_seq fun K74 hK74 => (c_condp rfl (fun g26 => ?_) (fun g26 => ?_)))))))
   ·
    refine c_skip (hK74 _ _ (c_seq fun K75 hK75 => (c_block (c_seq fun K76 hK76 => (c_region (t_move rfl rfl rfl (t_alloc (cs := [.int .i64 0]) Try.zeroValue3 rfl rfl rfl (fun bk77 w78 ebk77 sbk77 B79 u80 => ?_))))))))
    have zu80 := u80.size
    refine t_store (vs := [.int .i64 (z : Int)]) Try.sizeOf3 rfl rfl rfl B79 rfl rfl (Nat.le_of_ble_eq_true rfl) (by simp [Value.oneCell']) (fun w82 sw82 B84 u83 => ?_)
    have zu83 := u83.size
    have B84 : Blk w82 bk77 3 [.int .i64 (z : Int)] := B84
    refine t_nil' (hK76 _ _ (c_seq fun K86 hK86 => (c_region ?_)))
    have B87 := ((((((B20.keep u38 (show ¬ (bk13 = bk2) by first | omega | assumption)).keep u53 (fun h => h)).keep u56 (show ¬ (bk13 = bk50) by first | omega | assumption)).keep u64 (show ¬ (bk13 = bk2 ∨ (bk13 = g2 ∧ w18.heap.size ≤ bk13)) by first | omega | assumption)).keep u80 (fun h => h)).keep u83 (show ¬ (bk13 = bk77) by first | omega | assumption))
    refine t_load Try.isAgg124 rfl rfl rfl (B87.get rfl) (t_load Try.isAgg3 rfl rfl rfl (B84.get rfl) ?_)
    have B88 := (((B57.keep u64 (show ¬ (bk50 = bk2 ∨ (bk50 = g2 ∧ w18.heap.size ≤ bk50)) by first | omega | assumption)).keep u80 (fun h => h)).keep u83 (show ¬ (bk50 = bk77) by first | omega | assumption))
    refine t_load Try.isAgg3 rfl rfl rfl (B88.get rfl) (t_call (vs := [.pointer (some ⟨t, 0, none⟩), .int .i64 (z : Int), .int .i64 (y : Int)]) own88 rfl rfl rfl rfl (bars_c t z y _) (fun v89 w90 r92 => ?_))
    obtain ⟨⟨b3, b4, b5, rfl, hgb3, hgb4, hgb5, hBb3, hBb4, hBb5⟩, u91⟩ := r92
    have zu91 := u91.size
    refine t_nil' (hK86 _ _ (c_block (WC.weak [(4, .pointer (some ⟨bk2, 0, none⟩)), (6, .pointer (some ⟨bk13, 0, none⟩)), (7, .pointer (some ⟨bk50, 0, none⟩)), (8, .pointer (some ⟨bk77, 0, none⟩)), (20, .int .i64 (vs.length : Int)), (21, .int .i64 (y : Int)), (24, .int .i64 (y : Int)), (25, .int .i64 (z : Int)), (31, .func (.func 108) #[] #[.pointer (some ⟨b3, 0, none⟩), .pointer (some ⟨b4, 0, none⟩), .pointer (some ⟨b5, 0, none⟩)])] ⟨rfl, rfl, rfl, rfl, rfl, rfl, rfl, rfl, rfl, trivial⟩ ?_)))
    have B94 := (((I65.keep u80 (fun h => h)).keep u83 (show ¬ (bk2 = bk77) by first | omega | assumption)).keep u91 (fun h => h))
    have B95 := (B88.keep u91 (fun h => h))
    have B96 := (B84.keep u91 (fun h => h))
    have B97 := (B87.keep u91 (fun h => h))
    have hl3 := hBb3.lt
    have hl4 := hBb4.lt
    have hl5 := hBb5.lt
    have hl12 := B94.lt
    have hl7 := B95.lt
    have hl8 := B96.lt
    have hl6 := B97.lt
    have D98 := (((hacc3.keep u80 (fun _ h => h)).keep u83 (fun hb => show ¬ (g3 = bk77) by first | omega | assumption)).keep u91 (fun _ h => h))
    have D99 := (((((((((htr.keep u16 (fun _ _ h => h)).keepT u19 (htr.offX hoff (fun i hi hne => show ¬ (i = bk13) by omega))).keepT u38 (htr.offX hoff (fun i hi hne => show ¬ (i = bk2) by omega))).keep u53 (fun _ _ h => h)).keepT u56 (htr.offX hoff (fun i hi hne => show ¬ (i = bk50) by omega))).keepT u64 (htr.offX hoff (fun i hi hne => show ¬ (i = bk2 ∨ (i = g2 ∧ w18.heap.size ≤ i)) by omega))).keep u80 (fun _ _ h => h)).keepT u83 (htr.offX hoff (fun i hi hne => show ¬ (i = bk77) by omega))).keep u91 (fun _ _ h => h))
    refine c_range (α := (Ix ns.length)) (lb := [.pointer (some ⟨b3, 0, none⟩), .pointer (some ⟨b4, 0, none⟩), .pointer (some ⟨b5, 0, none⟩)]) (enc := encIx) (T := fun i => i = bk2 ∨ (i = g3 ∧ w18.heap.size ≤ i) ∨ w90.heap.size ≤ i) own108 rfl rfl (bars_seq lim t vs ns rows av an ar bv ov bn on br cv cn cr z y b3 b4 b5 _ _ D99 (by omega) (by omega) hBb3 hBb4 hBb5 (htr.offX hoff fun i hi hne => show ¬ (i = bk2 ∨ (i = g3 ∧ w18.heap.size ≤ i) ∨ w90.heap.size ≤ i) by omega) (show ¬ (b3 = bk2 ∨ (b3 = g3 ∧ w18.heap.size ≤ b3) ∨ w90.heap.size ≤ b3) by omega) (show ¬ (b4 = bk2 ∨ (b4 = g3 ∧ w18.heap.size ≤ b4) ∨ w90.heap.size ≤ b4) by omega) (show ¬ (b5 = bk2 ∨ (b5 = g3 ∧ w18.heap.size ≤ b5) ∨ w90.heap.size ≤ b5) by omega)) (fun i hi => by omega) (fun pre w => ∃ ao4 : Option Addr, ∃ g4 : Nat, ∃ c4 : Nat, ∃ cs4 : List Mt, Upd (fun i => i = bk2 ∨ (i = g3 ∧ w18.heap.size ≤ i)) w90 w ∧ Blk w bk2 107 [.slice ao4 cs4.length c4] ∧ (Acc encMt 3 162 w18.heap.size w ao4 g4 c4 cs4) ∧ (cs4 = cs3 ++ (pre.filter fun x => mayB (nth (nth rows z).ss x.1) (nth (nth rows y).ss x.1)).map fun x => (⟨z, y, x.1⟩ : Mt)) ∧ (g4 = g3 ∨ w90.heap.size ≤ g4) ∧ (cs4.length ≤ cs3.length + pre.length)) (ownFrom_ex (fun ao4 => ownFrom_ex (fun g4 => ownFrom_ex (fun c4 => ownFrom_ex (fun cs4 => (ownFrom_upd (Nat.le_refl _)).and (ownFrom_blk.and (ownFrom_acc.and ((ownFrom_pure _ _).and ((ownFrom_pure _ _).and (ownFrom_pure _ _)))))))))) ⟨ao3, g3, c3, cs3, Upd.refl _ _, B94, D98, (by simp), (.inl rfl), (by simp)⟩ (fun x => [(4, .pointer (some ⟨bk2, 0, none⟩)), (6, .pointer (some ⟨bk13, 0, none⟩)), (7, .pointer (some ⟨bk50, 0, none⟩)), (8, .pointer (some ⟨bk77, 0, none⟩)), (9, .int .i64 (x.1 : Int)), (20, .int .i64 (vs.length : Int)), (21, .int .i64 (y : Int)), (24, .int .i64 (y : Int)), (25, .int .i64 (z : Int))]) ?_ ?_ ?_
    ·
     intro l pre x W K100 hI hK100
     change WC _ _ _ _ _ _ [(32, .int .i64 (x.1 : Int)), (4, .pointer (some ⟨bk2, 0, none⟩)), (6, .pointer (some ⟨bk13, 0, none⟩)), (7, .pointer (some ⟨bk50, 0, none⟩)), (8, .pointer (some ⟨bk77, 0, none⟩)), (20, .int .i64 (vs.length : Int)), (21, .int .i64 (y : Int)), (24, .int .i64 (y : Int)), (25, .int .i64 (z : Int)), (31, .func (.func 108) #[] #[.pointer (some ⟨b3, 0, none⟩), .pointer (some ⟨b4, 0, none⟩), .pointer (some ⟨b5, 0, none⟩)])] _
     refine c_region (t_assign rfl rfl rfl (t_nil' ?_))
     exact hK100 _ ⟨rfl, rfl, rfl, rfl, rfl, rfl, rfl, rfl, rfl, trivial⟩
    ·
     intro l pre x w101 hI hlen
     obtain ⟨ao4, g4, c4, cs4, u102, I103, I104, I105, I106, I107⟩ := hI
     change WC _ _ _ _ _ _ [(4, .pointer (some ⟨bk2, 0, none⟩)), (6, .pointer (some ⟨bk13, 0, none⟩)), (7, .pointer (some ⟨bk50, 0, none⟩)), (8, .pointer (some ⟨bk77, 0, none⟩)), (9, .int .i64 (x.1 : Int)), (20, .int .i64 (vs.length : Int)), (21, .int .i64 (y : Int)), (24, .int .i64 (y : Int)), (25, .int .i64 (z : Int))] _
     have zu102 := u102.size
     have hacc4 := I104; clear I104
     have hcs4 := I105; clear I105
     have hg4 := I106; clear I106
     have hcl4 := I107; clear I107
     have lt_g4 := hacc4.lt
     have hx := x.2
     have hri := congrArg List.length (htr.row (show z < vs.length by omega))
     have hrj := congrArg List.length (htr.row (show y < vs.length by omega))
     rw [List.length_map] at hri hrj
     have hpl : pre.length < 21 := hlen
     have hcellsR := ((I103).cellsIn.or (hacc4).cellsIn)
     refine c_block (c_seq fun K109 hK109 => ?_)
     have B110 := (B97.keep u102 (show ¬ (bk13 = bk2 ∨ (bk13 = g3 ∧ w18.heap.size ≤ bk13)) by first | omega | assumption))
     have B111 := (B95.keep u102 (show ¬ (bk50 = bk2 ∨ (bk50 = g3 ∧ w18.heap.size ≤ bk50)) by first | omega | assumption))
     have B112 := (B96.keep u102 (show ¬ (bk77 = bk2 ∨ (bk77 = g3 ∧ w18.heap.size ≤ bk77)) by first | omega | assumption))
     refine WC.weak [(4, .pointer (some ⟨bk2, 0, none⟩)), (6, .pointer (some ⟨bk13, 0, none⟩)), (7, .pointer (some ⟨bk50, 0, none⟩)), (8, .pointer (some ⟨bk77, 0, none⟩)), (9, .int .i64 (x.1 : Int)), (20, .int .i64 (vs.length : Int)), (21, .int .i64 (y : Int)), (24, .int .i64 (y : Int)), (25, .int .i64 (z : Int))] ⟨rfl, rfl, rfl, rfl, rfl, rfl, rfl, rfl, rfl, trivial⟩ (c_drawn follows 21 [some (33, some (.pointer (some ⟨t, 0, none⟩))), some (34, some (.pointer (some ⟨t, 0, none⟩))), some (35, some (.pointer (some ⟨t, 2, none⟩))), some (36, some (.slice ar rows.length cr)), some (37, some (.int .i64 (z : Int))), some (38, some (.pointer (some ⟨br, 0 + z * 1, none⟩))), some (39, some (.slice ((nth rows z).ao) (((nth rows z).ss).length) ((nth rows z).cap))), some (40, some (.int .i64 (x.1 : Int))), some (41, some (.pointer (some ⟨(nth rows z).g, 0 + x.1 * 5, none⟩))), some (42, some (.agg #[.int .i64 ((nth ((nth rows z).ss) x.1).inn.lo), .int .i64 ((nth ((nth rows z).ss) x.1).inn.hi), .int .i64 ((nth ((nth rows z).ss) x.1).out.lo), .int .i64 ((nth ((nth rows z).ss) x.1).out.hi), .bool ((nth ((nth rows z).ss) x.1).there)])), some (43, some (.pointer (some ⟨t, 0, none⟩))), some (44, some (.pointer (some ⟨t, 0, none⟩))), some (45, some (.pointer (some ⟨t, 2, none⟩))), some (46, some (.slice ar rows.length cr)), some (47, some (.int .i64 (y : Int))), some (48, some (.pointer (some ⟨br, 0 + y * 1, none⟩))), some (49, some (.slice ((nth rows y).ao) (((nth rows y).ss).length) ((nth rows y).cap))), some (50, some (.int .i64 (x.1 : Int))), some (51, some (.pointer (some ⟨(nth rows y).g, 0 + x.1 * 5, none⟩))), some (52, some (.agg #[.int .i64 ((nth ((nth rows y).ss) x.1).inn.lo), .int .i64 ((nth ((nth rows y).ss) x.1).inn.hi), .int .i64 ((nth ((nth rows y).ss) x.1).out.lo), .int .i64 ((nth ((nth rows y).ss) x.1).out.hi), .bool ((nth ((nth rows y).ss) x.1).there)])), some (53, some (.bool (mayB (nth ((nth rows z).ss) x.1) (nth ((nth rows y).ss) x.1))))] [[],[0],[1],[2],[],[3,4],[5],[],[6,7],[8],[],[10],[11],[12],[],[13,14],[15],[],[16,17],[18],[9,19]] (fun _ _ w => Upd (fun _ => False) w101 w) rfl rfl rfl (by kernel_rfl) (by kernel_rfl) (Upd.drew _).to ⟨?_, ?_, ?_, ?_, ?_, ?_, ?_, ?_, ?_, ?_, ?_, ?_, ?_, ?_, ?_, ?_, ?_, ?_, ?_, ?_, ?_, trivial⟩ ?_)
     ·
      intro D ρ w124 hcD hnD hdD hW
      have zhW := hW.size
      refine ⟨_, kf_fr [6], fun Lr => ?_⟩
      have B127 := (B110.keep hW (fun h => h))
      refine t_load Try.isAgg124 rfl rfl rfl (B127.get rfl) ?_
      exact dz rfl hW
     · exact pz rfl rfl rfl rfl fun _ _ _ h => h
     · exact pzf Try.underlying160 rfl Try.sizeOf158 (2) rfl rfl rfl rfl rfl fun _ _ _ h => h
     ·
      intro D ρ w128 hcD hnD hdD hW
      have zhW := hW.size
      refine ⟨_, kf_fr [35], fun Lr => ?_⟩
      have B131 := (((((((((((htb.keep u16 (fun h => h)).keep u19 (show ¬ (t = bk13) by first | omega | assumption)).keep u38 (show ¬ (t = bk2) by first | omega | assumption)).keep u53 (fun h => h)).keep u56 (show ¬ (t = bk50) by first | omega | assumption)).keep u64 (show ¬ (t = bk2 ∨ (t = g2 ∧ w18.heap.size ≤ t)) by first | omega | assumption)).keep u80 (fun h => h)).keep u83 (show ¬ (t = bk77) by first | omega | assumption)).keep u91 (fun h => h)).keep u102 (show ¬ (t = bk2 ∨ (t = g3 ∧ w18.heap.size ≤ t)) by first | omega | assumption)).keep hW (fun h => h))
      refine t_load Try.isAgg158 rfl rfl rfl (B131.get rfl) ?_
      exact dz rfl hW
     ·
      intro D ρ w132 hcD hnD hdD hW
      have zhW := hW.size
      refine ⟨_, kf_fr [8], fun Lr => ?_⟩
      have B135 := (B112.keep hW (fun h => h))
      refine t_load Try.isAgg3 rfl rfl rfl (B135.get rfl) ?_
      exact dz rfl hW
     ·
      intro D ρ w136 hcD hnD hdD hW
      have zhW := hW.size
      refine ⟨_, kf_fr [36, 37], fun Lr => ?_⟩
      have D139 := ((D99.keepT u102 (htr.offX hoff (fun i hi hne => show ¬ (i = bk2 ∨ (i = g3 ∧ w18.heap.size ≤ i)) by omega))).keep hW (fun _ _ h => h))
      have i140 : z < rows.length := (by omega)
      refine t_index (j := z) Try.underlying158 Try.sizeOf157 rfl rfl rfl rfl (D139.ssl.addr (by omega)) rfl i140 ?_
      exact dz rfl hW
     ·
      intro D ρ w141 hcD hnD hdD hW
      have zhW := hW.size
      refine ⟨_, kf_fr [38], fun Lr => ?_⟩
      have D144 := ((D99.keepT u102 (htr.offX hoff (fun i hi hne => show ¬ (i = bk2 ∨ (i = g3 ∧ w18.heap.size ≤ i)) by omega))).keep hW (fun _ _ h => h))
      refine t_load Try.isAgg157 rfl rfl rfl ((D144.ssl.at_ z (by omega)) 0 _ rfl) ?_
      exact dz rfl hW
     · exact pz rfl rfl rfl rfl fun _ _ _ h => h
     ·
      intro D ρ w145 hcD hnD hdD hW
      have zhW := hW.size
      refine ⟨_, kf_fr [39, 40], fun Lr => ?_⟩
      have D148 := ((D99.keepT u102 (htr.offX hoff (fun i hi hne => show ¬ (i = bk2 ∨ (i = g3 ∧ w18.heap.size ≤ i)) by omega))).keep hW (fun _ _ h => h))
      have i149 : x.1 < ((nth rows z).ss).length := (by omega)
      refine t_index (j := x.1) Try.underlying157 Try.sizeOf141 rfl rfl rfl rfl ((D148.rsl (nth rows z) (nth_mem (by omega))).addr (by omega)) rfl i149 ?_
      exact dz rfl hW
     ·
      intro D ρ w150 hcD hnD hdD hW
      have zhW := hW.size
      refine ⟨_, kf_fr [41], fun Lr => ?_⟩
      have D153 := ((D99.keepT u102 (htr.offX hoff (fun i hi hne => show ¬ (i = bk2 ∨ (i = g3 ∧ w18.heap.size ≤ i)) by omega))).keep hW (fun _ _ h => h))
      refine t_loadN (vs := [.int .i64 ((nth ((nth rows z).ss) x.1).inn.lo), .int .i64 ((nth ((nth rows z).ss) x.1).inn.hi), .int .i64 ((nth ((nth rows z).ss) x.1).out.lo), .int .i64 ((nth ((nth rows z).ss) x.1).out.hi), .bool ((nth ((nth rows z).ss) x.1).there)]) Try.isAgg141 Try.sizeOf141 rfl rfl rfl (((D153.rsl (nth rows z) (nth_mem (by omega))).at_ x.1 (by omega)).sub 0 5) rfl ?_
      exact dz rfl hW
     ·
      intro D ρ w154 hcD hnD hdD hW
      have zhW := hW.size
      refine ⟨_, kf_fr [6], fun Lr => ?_⟩
      have B157 := (B110.keep hW (fun h => h))
      refine t_load Try.isAgg124 rfl rfl rfl (B157.get rfl) ?_
      exact dz rfl hW
     · exact pz rfl rfl rfl rfl fun _ _ _ h => h
     · exact pzf Try.underlying160 rfl Try.sizeOf158 (2) rfl rfl rfl rfl rfl fun _ _ _ h => h
     ·
      intro D ρ w158 hcD hnD hdD hW
      have zhW := hW.size
      refine ⟨_, kf_fr [45], fun Lr => ?_⟩
      have B161 := (((((((((((htb.keep u16 (fun h => h)).keep u19 (show ¬ (t = bk13) by first | omega | assumption)).keep u38 (show ¬ (t = bk2) by first | omega | assumption)).keep u53 (fun h => h)).keep u56 (show ¬ (t = bk50) by first | omega | assumption)).keep u64 (show ¬ (t = bk2 ∨ (t = g2 ∧ w18.heap.size ≤ t)) by first | omega | assumption)).keep u80 (fun h => h)).keep u83 (show ¬ (t = bk77) by first | omega | assumption)).keep u91 (fun h => h)).keep u102 (show ¬ (t = bk2 ∨ (t = g3 ∧ w18.heap.size ≤ t)) by first | omega | assumption)).keep hW (fun h => h))
      refine t_load Try.isAgg158 rfl rfl rfl (B161.get rfl) ?_
      exact dz rfl hW
     ·
      intro D ρ w162 hcD hnD hdD hW
      have zhW := hW.size
      refine ⟨_, kf_fr [7], fun Lr => ?_⟩
      have B165 := (B111.keep hW (fun h => h))
      refine t_load Try.isAgg3 rfl rfl rfl (B165.get rfl) ?_
      exact dz rfl hW
     ·
      intro D ρ w166 hcD hnD hdD hW
      have zhW := hW.size
      refine ⟨_, kf_fr [46, 47], fun Lr => ?_⟩
      have D169 := ((D99.keepT u102 (htr.offX hoff (fun i hi hne => show ¬ (i = bk2 ∨ (i = g3 ∧ w18.heap.size ≤ i)) by omega))).keep hW (fun _ _ h => h))
      have i170 : y < rows.length := (by omega)
      refine t_index (j := y) Try.underlying158 Try.sizeOf157 rfl rfl rfl rfl (D169.ssl.addr (by omega)) rfl i170 ?_
      exact dz rfl hW
     ·
      intro D ρ w171 hcD hnD hdD hW
      have zhW := hW.size
      refine ⟨_, kf_fr [48], fun Lr => ?_⟩
      have D174 := ((D99.keepT u102 (htr.offX hoff (fun i hi hne => show ¬ (i = bk2 ∨ (i = g3 ∧ w18.heap.size ≤ i)) by omega))).keep hW (fun _ _ h => h))
      refine t_load Try.isAgg157 rfl rfl rfl ((D174.ssl.at_ y (by omega)) 0 _ rfl) ?_
      exact dz rfl hW
     · exact pz rfl rfl rfl rfl fun _ _ _ h => h
     ·
      intro D ρ w175 hcD hnD hdD hW
      have zhW := hW.size
      refine ⟨_, kf_fr [49, 50], fun Lr => ?_⟩
      have D178 := ((D99.keepT u102 (htr.offX hoff (fun i hi hne => show ¬ (i = bk2 ∨ (i = g3 ∧ w18.heap.size ≤ i)) by omega))).keep hW (fun _ _ h => h))
      have i179 : x.1 < ((nth rows y).ss).length := (by omega)
      refine t_index (j := x.1) Try.underlying157 Try.sizeOf141 rfl rfl rfl rfl ((D178.rsl (nth rows y) (nth_mem (by omega))).addr (by omega)) rfl i179 ?_
      exact dz rfl hW
     ·
      intro D ρ w180 hcD hnD hdD hW
      have zhW := hW.size
      refine ⟨_, kf_fr [51], fun Lr => ?_⟩
      have D183 := ((D99.keepT u102 (htr.offX hoff (fun i hi hne => show ¬ (i = bk2 ∨ (i = g3 ∧ w18.heap.size ≤ i)) by omega))).keep hW (fun _ _ h => h))
      refine t_loadN (vs := [.int .i64 ((nth ((nth rows y).ss) x.1).inn.lo), .int .i64 ((nth ((nth rows y).ss) x.1).inn.hi), .int .i64 ((nth ((nth rows y).ss) x.1).out.lo), .int .i64 ((nth ((nth rows y).ss) x.1).out.hi), .bool ((nth ((nth rows y).ss) x.1).there)]) Try.isAgg141 Try.sizeOf141 rfl rfl rfl (((D183.rsl (nth rows y) (nth_mem (by omega))).at_ x.1 (by omega)).sub 0 5) rfl ?_
      exact dz rfl hW
     ·
      intro D ρ w184 hcD hnD hdD hW
      have zhW := hW.size
      refine ⟨_, kf_fr [42, 52], fun Lr => ?_⟩
      refine t_call (vs := [.agg #[.int .i64 ((nth ((nth rows z).ss) x.1).inn.lo), .int .i64 ((nth ((nth rows z).ss) x.1).inn.hi), .int .i64 ((nth ((nth rows z).ss) x.1).out.lo), .int .i64 ((nth ((nth rows z).ss) x.1).out.hi), .bool ((nth ((nth rows z).ss) x.1).there)], .agg #[.int .i64 ((nth ((nth rows y).ss) x.1).inn.lo), .int .i64 ((nth ((nth rows y).ss) x.1).inn.hi), .int .i64 ((nth ((nth rows y).ss) x.1).out.lo), .int .i64 ((nth ((nth rows y).ss) x.1).out.hi), .bool ((nth ((nth rows y).ss) x.1).there)]]) own78 rfl rfl rfl rfl (may_c (nth ((nth rows z).ss) x.1) (nth ((nth rows y).ss) x.1) _) (fun v187 w188 r190 => ?_)
      obtain ⟨rfl, u189⟩ := r190
      have zu189 := u189.size
      exact dz rfl (hW.next u189 (fun _ _ h => h.elim))
     intro ρ w192 hW
     have u193 : Upd (fun _ => False) w101 w192 := hW
     have zu193 := u193.size
     refine QK.weak [(4, .pointer (some ⟨bk2, 0, none⟩)), (6, .pointer (some ⟨bk13, 0, none⟩)), (7, .pointer (some ⟨bk50, 0, none⟩)), (8, .pointer (some ⟨bk77, 0, none⟩)), (9, .int .i64 (x.1 : Int)), (20, .int .i64 (vs.length : Int)), (21, .int .i64 (y : Int)), (24, .int .i64 (y : Int)), (25, .int .i64 (z : Int)), (33, .pointer (some ⟨t, 0, none⟩)), (34, .pointer (some ⟨t, 0, none⟩)), (35, .pointer (some ⟨t, 2, none⟩)), (36, .slice ar rows.length cr), (37, .int .i64 (z : Int)), (38, .pointer (some ⟨br, 0 + z * 1, none⟩)), (39, .slice ((nth rows z).ao) (((nth rows z).ss).length) ((nth rows z).cap)), (40, .int .i64 (x.1 : Int)), (41, .pointer (some ⟨(nth rows z).g, 0 + x.1 * 5, none⟩)), (42, .agg #[.int .i64 ((nth ((nth rows z).ss) x.1).inn.lo), .int .i64 ((nth ((nth rows z).ss) x.1).inn.hi), .int .i64 ((nth ((nth rows z).ss) x.1).out.lo), .int .i64 ((nth ((nth rows z).ss) x.1).out.hi), .bool ((nth ((nth rows z).ss) x.1).there)]), (43, .pointer (some ⟨t, 0, none⟩)), (44, .pointer (some ⟨t, 0, none⟩)), (45, .pointer (some ⟨t, 2, none⟩)), (46, .slice ar rows.length cr), (47, .int .i64 (y : Int)), (48, .pointer (some ⟨br, 0 + y * 1, none⟩)), (49, .slice ((nth rows y).ao) (((nth rows y).ss).length) ((nth rows y).cap)), (50, .int .i64 (x.1 : Int)), (51, .pointer (some ⟨(nth rows y).g, 0 + x.1 * 5, none⟩)), (52, .agg #[.int .i64 ((nth ((nth rows y).ss) x.1).inn.lo), .int .i64 ((nth ((nth rows y).ss) x.1).inn.hi), .int .i64 ((nth ((nth rows y).ss) x.1).out.lo), .int .i64 ((nth ((nth rows y).ss) x.1).out.hi), .bool ((nth ((nth rows y).ss) x.1).there)]), (53, .bool (mayB (nth ((nth rows z).ss) x.1) (nth ((nth rows y).ss) x.1)))] ⟨rfl, rfl, rfl, rfl, rfl, rfl, rfl, rfl, rfl, rfl, rfl, rfl, rfl, rfl, rfl, rfl, rfl, rfl, rfl, rfl, rfl, rfl, rfl, rfl, rfl, rfl, rfl, rfl, rfl, rfl, trivial⟩ (hK109 _ _ (c_cond rfl (fun g53 => ?_) (fun g53 => ?_)))
     ·
      refine c_region ?_
      have B195 := (I103.keep u193 (fun h => h))
      refine t_load Try.isAgg107 rfl rfl rfl (B195.get rfl) ?_
      have B196 := (B112.keep u193 (fun h => h))
      refine t_load Try.isAgg3 rfl rfl rfl (B196.get rfl) ?_
      have B197 := (B111.keep u193 (fun h => h))
      refine t_load Try.isAgg3 rfl rfl rfl (B197.get rfl) (t_move rfl rfl rfl (t_build (ps := [(0, .int .i64 (z : Int)), (1, .int .i64 (y : Int)), (2, .int .i64 (x.1 : Int))]) (v := .agg #[.int .i64 (z : Int), .int .i64 (y : Int), .int .i64 (x.1 : Int)]) rfl rfl ⟨rfl, rfl⟩ (fun w => by kernel_rfl) (t_bslice (ps := [(0, .agg #[.int .i64 (z : Int), .int .i64 (y : Int), .int .i64 (x.1 : Int)])]) (cs := [.int .i64 (z : Int), .int .i64 (y : Int), .int .i64 (x.1 : Int)]) (e := 162) rfl rfl ⟨rfl, rfl⟩ (fun w => by kernel_rfl) (fun bk198 w199 ebk198 sbk198 B200 u201 => ?_))))
      have zu201 := u201.size
      have D203 := ((hacc4.keep u193 (fun _ h => h)).keep u201 (fun _ h => h))
      refine t_append (z := .agg #[.int .i64 0, .int .i64 0, .int .i64 0]) (bytes := 24) (k := 3) (base := w18.heap.size) (⟨z, y, x.1⟩ : Mt) Try.underlying107 (by kernel_rfl) rfl (by decide) (fun _ => rfl) (by intro x; simp [encMt, Value.oneCell']) rfl rfl rfl rfl D203 B200 (by omega) (by omega) (by decide) (fun ao204 gb205 cp206 w207 A208 u209 gegb205 lngb205 => ?_)
      have zu209 := u209.size
      have lt_gb205 := A208.lt
      have B211 := ((B195.keep u201 (fun h => h)).keep u209 (show ¬ ((bk2 = g4 ∧ w18.heap.size ≤ bk2)) by first | omega | assumption))
      refine t_store (vs := [.slice ao204 (((cs4 ++ [(⟨z, y, x.1⟩ : Mt)])).length) cp206]) Try.sizeOf107 rfl rfl rfl B211 rfl rfl (Nat.le_of_ble_eq_true rfl) (by simp [Value.oneCell']) (fun w212 sw212 B214 u213 => ?_)
      have zu213 := u213.size
      have B214 : Blk w212 bk2 107 [.slice ao204 (((cs4 ++ [(⟨z, y, x.1⟩ : Mt)])).length) cp206] := B214
      refine t_nil' ?_
      have hUr := (((((Upd.refl (fun i => i = bk2 ∨ (i = g4 ∧ w18.heap.size ≤ i)) w101).next u193 (fun _ _ h => h.elim)).next u201 (fun _ _ h => h.elim)).next u209 (fun i hi (h : (i = g4 ∧ w18.heap.size ≤ i)) => show i = bk2 ∨ (i = g4 ∧ w18.heap.size ≤ i) by first | omega | assumption)).next u213 (fun i hi (h : i = bk2) => show i = bk2 ∨ (i = g4 ∧ w18.heap.size ≤ i) by first | omega | assumption))
      have D216 := (A208.keep u213 (fun hb => show ¬ (gb205 = bk2) by first | omega | assumption))
      exact fun a ha => ⟨KeepsFrom.of_upd hUr hcellsR, hUr.mono (fun i h => show i = bk2 ∨ (i = g3 ∧ w18.heap.size ≤ i) ∨ w90.heap.size ≤ i by omega), ao204, gb205, cp206, (cs4 ++ [(⟨z, y, x.1⟩ : Mt)]), ((((u102.next u193 (fun _ _ h => h.elim)).next u201 (fun _ _ h => h.elim)).next u209 (fun i hi (h : (i = g4 ∧ w18.heap.size ≤ i)) => show i = bk2 ∨ (i = g3 ∧ w18.heap.size ≤ i) by first | omega | assumption)).next u213 (fun i hi (h : i = bk2) => show i = bk2 ∨ (i = g3 ∧ w18.heap.size ≤ i) by first | omega | assumption)), B214, D216, (by rw [hcs4, List.filter_append, List.map_append]; simp [g53]), (by omega), (by simp; omega)⟩
     ·
      refine c_skip ?_
      have hUr := ((Upd.refl (fun i => i = bk2 ∨ (i = g4 ∧ w18.heap.size ≤ i)) w101).next u193 (fun _ _ h => h.elim))
      have B217 := (I103.keep u193 (fun h => h))
      have D218 := (hacc4.keep u193 (fun _ h => h))
      exact fun a ha => ⟨KeepsFrom.of_upd hUr hcellsR, hUr.mono (fun i h => show i = bk2 ∨ (i = g3 ∧ w18.heap.size ≤ i) ∨ w90.heap.size ≤ i by omega), ao4, g4, c4, cs4, (u102.next u193 (fun _ _ h => h.elim)), B217, D218, (by rw [hcs4, List.filter_append, List.map_append]; simp [g53]), (by omega), (by simp; omega)⟩
    ·
     have hmk0 := (hmk3.keep ((((Upd.refl (fun _ => False) _).next u80 (fun _ _ h => h.elim)).next u83 (fun i hi (h : i = bk77) => show False by first | omega | assumption)).next u91 (fun _ _ h => h.elim)) (CellsIn.none _))
     have hmc0 := ((B94).cellsIn.or (D98).cellsIn)
     intro D221 xs w219 hD221 hS hI hdD221
     obtain ⟨ao4, g4, c4, cs4, u220, I222, I223, I224, I225, I226⟩ := hI
     have zu220 := u220.size
     have hacc4 := I223; clear I223
     have hcs4 := I224; clear I224
     have hg4 := I225; clear I225
     have hcl4 := I226; clear I226
     have lt_g4 := hacc4.lt
     have mk228 := (hmk0.keep u220 hmc0).push (D := D221) (by omega) hdD221 (fun d hd D' e => Nat.lt_of_lt_of_le (hmk0.lt d hd D' e) hD221)
     have hxl := filter_len hS
     refine hK75 _ _ (c_region (t_ari rfl rfl rfl rfl rfl (by omega) (t_move rfl rfl rfl (t_nil' ?_))))
     exact hK62 (z + 1, ao4, g4, c4, cs4, (mark D221 :: dl3)) _ _ (by show y - (z + 1) < y - z; omega) ⟨rfl, rfl, rfl, rfl, rfl, rfl, rfl, trivial⟩ ⟨((((u64.next u80 (fun _ _ h => h.elim)).next u83 (fun i hi (h : i = bk77) => show i = bk2 ∨ (i = g2 ∧ w18.heap.size ≤ i) by first | omega | assumption)).next u91 (fun _ _ h => h.elim)).next u220 (fun i hi (h : i = bk2 ∨ (i = g3 ∧ w18.heap.size ≤ i)) => show i = bk2 ∨ (i = g2 ∧ w18.heap.size ≤ i) by first | omega | assumption)), I222, (by show z + 1 ≤ y; omega), (by rw [hcs4, seg_of hS, hcs3, seg_succ, List.append_assoc]), (by show cs4.length ≤ 240 * y + 20 * (z + 1); omega), hacc4, (by show g4 = g2 ∨ w55.heap.size ≤ g4; omega), mk228⟩
   ·
    refine c_exit (hK48 _ _ (c_region (t_ari rfl rfl rfl rfl rfl (by omega) (t_move rfl rfl rfl (t_nil' ?_)))))
    exact hK36 (y + 1, ao3, g3, c3, cs3, dl3) _ _ (by show vs.length - (y + 1) < vs.length - y; omega) ⟨rfl, rfl, rfl, rfl, trivial⟩ ⟨(((u38.next u53 (fun _ _ h => h.elim)).next u56 (fun i hi (h : i = bk50) => show i = bk2 by first | omega | assumption)).next u64 (fun i hi (h : i = bk2 ∨ (i = g2 ∧ w18.heap.size ≤ i)) => show i = bk2 by first | omega | assumption)), I65, (by omega), (by rw [hcs3, hcs2, confJ_succ, show z = y from by omega]), (by show cs3.length ≤ 240 * (y + 1); omega), hacc3, hmk3⟩
  ·
   refine c_exit (hK34 _ _ (c_seq fun K229 hK229 => (c_region (t_load Try.isAgg107 rfl rfl rfl (I39.get rfl) ?_))))
   have haccS := hacc2
   have hmkS0 := hmk
   refine t_call (vs := [.slice ao2 cs2.length c2, .func (.func 90) #[] #[]]) own89 rfl rfl rfl rfl (sort_c sortM 3 (by decide) Try.isAgg162 Try.sizeOf162 encMt (fun _ => rfl) (by intro x; simp [encMt, Value.oneCell']) cfM cfM_swo 90 own90 conf1_ok 162 w18.heap.size ao2 g2 c2 cs2 _ haccS (by omega)) (fun v230 w231 r233 => ?_)
   obtain ⟨ys, hperm, hasc, hays, u232, rfl⟩ := r233
   have zu232 := u232.size
   have E234 := E45.next u232 (fun i hi (h : (i = g2 ∧ w18.heap.size ≤ i)) => show False by first | omega | assumption)
   have hmkS := hmkS0.keep u232 haccS.cellsIn
   have hyl := hperm.length_eq
   have lt_g2 := hays.lt
   refine t_nil' (hK229 _ _ (c_seq fun K235 hK235 => (c_region ?_)))
   have B236 := (I39.keep u232 (show ¬ ((bk2 = g2 ∧ w18.heap.size ≤ bk2)) by first | omega | assumption))
   refine t_load Try.isAgg107 rfl rfl rfl (B236.get rfl) ?_
   have hbS := B236
   have hmkU := hmkS
   refine t_store (vs := [.slice ao2 cs2.length c2]) Try.sizeOf107 rfl rfl rfl B236 rfl rfl (Nat.le_of_ble_eq_true rfl) (by simp [Value.oneCell']) (fun w237 sw237 B239 u238 => ?_)
   have zu238 := u238.size
   have E240 := E234.next u238 (fun i hi (h : i = bk2) => show False by first | omega | assumption)
   have B239 : Blk w237 bk2 107 [.slice ao2 cs2.length c2] := B239
   refine t_assign rfl rfl rfl (t_nil' (hK235 _ _ (c_ret ?_)))
   have D241 := (hays.keep u238 (fun hb => show ¬ (g2 = bk2) by first | omega | assumption))
   have hayE := D241
   have hayS := hayE.sl (fun _ => rfl)
   have hmkE := (hmkU.keep u238 hbS.cellsIn)
   refine f_retMc2 (v1 := .slice ao2 cs2.length c2) (v2 := .int .i64 0) Try.results54 (.cell (hmkU.keep u238 hbS.cellsIn) rfl Try.isAgg107 B239 rfl) (.tmp rfl) (hmkU.keep u238 hbS.cellsIn) (fun w242 u243 omw242 => ?_)
   have zu243 := u243.size
   have E244 := E240.next u243 (fun i hi (h : w0.heap.size ≤ i) => show False by first | omega | assumption)
   exact ⟨.inr ⟨hE, ao2, g2, c2, by rw [← conf_sorted htr.eq (hperm.trans (by rw [hcs2, show y = vs.length from by omega])) hasc, hyl], by rw [← conf_sorted htr.eq (hperm.trans (by rw [hcs2, show y = vs.length from by omega])) hasc]; exact (hayS.keep omw242 (fun hp => hmkE.notAcc hayE hp))⟩, E244⟩


theorem ConfU_c (us : List HVoy) (ao : Option Addr) (b cap : Nat) (ns : List Nar) (an : Option Addr) (bn on cn : Nat) (vl : List Voy) (w0 : World) (hm : us.map HVoy.v = vl) (hs : Sl encHVoy 5 w0 ao b 0 us) (hruns : ∀ x ∈ us, Sl encRun 6 w0 x.ao x.b x.o x.v.runs) (hn : Sl encNar 4 w0 an bn on ns) (hl : vl.length ≤ 1000000) (hrl : ∀ v ∈ vl, v.runs.length ≤ 1000000) (hnl : ns.length ≤ 1000000) :
    CallsV Try.prog 54 [.slice ao us.length cap, .slice an ns.length cn] w0 (fun v w' => (∃ ms e ao b cap, v = .tuple #[.slice ao ms.length cap, .int .i64 e] ∧ Sl encMt 3 w' ao b 0 ms ∧ e = OpenE vl ns ∧ (e ≠ 0 → ms = []) ∧ (e = 0 → ms = confL vl ns)) ∧ Ext w0 w') := by
  subst hm
  refine (Conflicts_c us ns ao an b 0 bn on cap cn w0 hs hruns (fun x hx => hrl x.v (List.mem_map.2 ⟨x, hx, rfl⟩)) hn (by rw [List.length_map] at hl; exact hl) hnl).mono ?_
  rintro v w' ⟨h, u⟩
  refine ⟨?_, u⟩
  rcases h with ⟨h1, rfl⟩ | ⟨h1, ao, b, cap, rfl, h2⟩
  · exact ⟨[], _, none, 0, 0, rfl, Sl.nil _ _ _ _ _ _, rfl, fun _ => rfl, fun h => absurd h h1⟩
  · exact ⟨_, _, ao, b, cap, rfl, h2, h1.symm, fun h => absurd rfl h, fun _ => rfl⟩

end Go.Proofs.Ytmicjleiheoieaa
