/-
  Part 14 of the proof: contracts and plain laws. Conditions: none.
-/
import Derived.Test.YtclinbbghnebaaaGreatBK13
namespace Go.Proofs.YtclinbbghnebaaaGreat
open Go Go.RowKit Go.Proofs.Tryz
set_option maxRecDepth 10000
structure Mt where
  a : Nat
  b : Nat
  k : Nat
instance : Inhabited Mt := ⟨⟨default, default, default⟩⟩
def encMt (m : Mt) : List Value := [.int .i64 (m.a : Int), .int .i64 (m.b : Int), .int .i64 (m.k : Int)]
def cm3 (a b c a' b' c' : Int) : Int := if cmpI3 a a' ≠ 0 then cmpI3 a a' else if cmpI3 b b' ≠ 0 then cmpI3 b b' else if cmpI3 c c' ≠ 0 then cmpI3 c c' else 0
def cfM (x y : Mt) : Int := cm3 x.a x.b x.k y.a y.b y.k
def ltM (x y : Mt) : Prop := x.a < y.a ∨ x.a = y.a ∧ (x.b < y.b ∨ x.b = y.b ∧ x.k < y.k)
theorem cfM_lt (x y : Mt) : cfM x y < 0 ↔ ltM x y := by
  unfold cfM cm3 ltM cmpI3
  constructor
  · intro h; split at h <;> split at h <;> (try split at h) <;> (try split at h) <;> (try split at h) <;> (try split at h) <;> omega
  · intro h; split <;> split <;> (try split) <;> (try split) <;> (try split) <;> (try split) <;> omega
theorem cfM_ltB (x y : Mt) : ltOf cfM x y = true ↔ ltM x y := by unfold ltOf; rw [← cfM_lt]; simp
theorem cfM_swo : Go.Sort.SWO (ltOf cfM) where
  irrefl x := by
    cases h : ltOf cfM x x
    · rfl
    · have := (cfM_ltB x x).1 h; unfold ltM at this; omega
  trans x y z h1 h2 := by rw [cfM_ltB] at *; unfold ltM at *; omega
  ntrans x y z h1 h2 := by
    cases h : ltOf cfM x z
    · rfl
    · have h3 : ¬ ltM x y := fun q => by rw [← cfM_ltB, h1] at q; cases q
      have h4 : ¬ ltM y z := fun q => by rw [← cfM_ltB, h2] at q; cases q
      have h5 := (cfM_ltB x z).1 h
      unfold ltM at *; omega
theorem fm_app {α β : Type} (a b : α → List β) : ∀ l : List α, (l.flatMap fun i => a i ++ b i).Perm (l.flatMap a ++ l.flatMap b)
  | [] => List.Perm.refl _
  | x :: l => by
    rw [List.flatMap_cons, List.flatMap_cons, List.flatMap_cons, List.append_assoc, List.append_assoc]
    refine List.Perm.append_left _ ?_
    refine ((fm_app a b l).append_left (b x)).trans ?_
    rw [← List.append_assoc, ← List.append_assoc]
    exact List.perm_append_comm.append_right _
theorem fm_congr {α β : Type} {f g : α → List β} : ∀ {l : List α}, (∀ x ∈ l, f x = g x) → l.flatMap f = l.flatMap g
  | [], _ => rfl
  | x :: l, h => by rw [List.flatMap_cons, List.flatMap_cons, h x (by simp), fm_congr (fun y hy => h y (by simp [hy]))]
theorem tri_perm {β : Type} (f : Nat → Nat → List β) : ∀ n, ((List.range n).flatMap fun j => (List.range j).flatMap fun i => f i j).Perm ((List.range n).flatMap fun i => (List.range' (i + 1) (n - (i + 1))).flatMap fun j => f i j)
  | 0 => List.Perm.refl _
  | n + 1 => by
    rw [List.range_succ, List.flatMap_append, List.flatMap_append]
    have e : ((List.range n).flatMap fun i => (List.range' (i + 1) (n + 1 - (i + 1))).flatMap fun j => f i j) = (List.range n).flatMap fun i => ((List.range' (i + 1) (n - (i + 1))).flatMap fun j => f i j) ++ f i n := by
      refine fm_congr fun i hi => ?_
      have hi' : i < n := by simpa using hi
      rw [show n + 1 - (i + 1) = (n - (i + 1)) + 1 by omega, List.range'_concat, List.flatMap_append]
      have e2 : i + 1 + 1 * (n - (i + 1)) = n := by omega
      rw [e2]; simp
    rw [e]
    have e3 : ([n] : List Nat).flatMap (fun i => (List.range' (i + 1) (n + 1 - (i + 1))).flatMap fun j => f i j) = [] := by simp
    have e4 : ([n] : List Nat).flatMap (fun j => (List.range j).flatMap fun i => f i j) = (List.range n).flatMap fun i => f i n := by simp
    rw [e3, e4, List.append_nil]
    exact ((tri_perm f n).append_right _).trans (fm_app _ _ _).symm
theorem tri_asc (f : Nat → Nat → List Mt) (n : Nat) (hm : ∀ i j x, x ∈ f i j → x.a = i ∧ x.b = j) (hk : ∀ i j, (f i j).Pairwise (fun x y => x.k < y.k)) :
    ((List.range n).flatMap fun i => (List.range' (i + 1) (n - (i + 1))).flatMap fun j => f i j).Pairwise ltM := by
  have hin : ∀ i x, x ∈ ((List.range' (i + 1) (n - (i + 1))).flatMap fun j => f i j) → x.a = i := fun i x hx => by
    obtain ⟨j, _, h⟩ := List.mem_flatMap.1 hx; exact (hm i j x h).1
  refine List.pairwise_flatMap.2 ⟨fun i _ => List.pairwise_flatMap.2 ⟨fun j _ => ?_, ?_⟩, ?_⟩
  · refine (List.Pairwise.imp_of_mem ?_ (hk i j))
    intro x y hx hy h
    have h1 := hm i j x hx; have h2 := hm i j y hy
    exact .inr ⟨by omega, .inr ⟨by omega, h⟩⟩
  · refine List.Pairwise.imp ?_ (List.pairwise_lt_range' (s := i + 1) (n := n - (i + 1)))
    intro j j' hj x hx y hy
    have h1 := hm i j x hx; have h2 := hm i j' y hy
    exact .inr ⟨by omega, .inl (by omega)⟩
  · refine List.Pairwise.imp ?_ (List.pairwise_lt_range (n := n))
    intro i i' hi x hx y hy
    have h1 := hin i x hx; have h2 := hin i' y hy
    exact .inl (by omega)
def confS (l : List Voy) (ns : List Nar) (i j : Nat) : List Mt := ((List.range ns.length).filter fun k => barsV (nth l i) (nth l j) (nth ns k)).map fun k => ⟨i, j, k⟩
/-- All meetings that may happen and must not, in their order. -/
def confL (l : List Voy) (ns : List Nar) : List Mt := (List.range l.length).flatMap fun i => (List.range' (i + 1) (l.length - (i + 1))).flatMap fun j => confS l ns i j
def segM (vs : List HVoy) (ns : List Nar) (rows : List HSt) (i j : Nat) : List Mt := (((List.range ns.length).filter (barB vs ns rows i j)).filter fun k => mayB (nth (nth rows i).ss k) (nth (nth rows j).ss k)).map fun k => ⟨i, j, k⟩
def confJ (vs : List HVoy) (ns : List Nar) (rows : List HSt) (n : Nat) : List Mt := (List.range n).flatMap fun j => (List.range j).flatMap fun i => segM vs ns rows i j
theorem confJ_succ {vs : List HVoy} {ns : List Nar} {rows : List HSt} (n : Nat) : confJ vs ns rows (n + 1) = confJ vs ns rows n ++ (List.range n).flatMap fun i => segM vs ns rows i n := by
  unfold confJ; rw [List.range_succ, List.flatMap_append]; simp
theorem seg_succ {vs : List HVoy} {ns : List Nar} {rows : List HSt} (j n : Nat) : ((List.range (n + 1)).flatMap fun i => segM vs ns rows i j) = ((List.range n).flatMap fun i => segM vs ns rows i j) ++ segM vs ns rows n j := by
  rw [List.range_succ, List.flatMap_append]; simp
theorem seg_conf {vs : List HVoy} {ns : List Nar} {rows : List HSt} (hr : rows.map (·.ss) = vs.map (fun h => ns.map (thrS h.v))) {i j : Nat} (hi : i < vs.length) (hj : j < vs.length) : segM vs ns rows i j = confS (vs.map HVoy.v) ns i j := by
  have hrow : ∀ {q : Nat}, q < vs.length → (nth rows q).ss = ns.map (thrS (nth vs q).v) := fun {q} hq => by
    have hl : rows.length = vs.length := by simpa using congrArg List.length hr
    have := congrArg (fun l => l[q]?) hr
    simp only [List.getElem?_map] at this
    rw [List.getElem?_eq_getElem (by omega), List.getElem?_eq_getElem hq] at this
    rw [nth_eq (by omega), nth_eq hq]
    simpa using this
  have hst : ∀ {q k : Nat}, q < vs.length → k < ns.length → nth (nth rows q).ss k = thrS (nth vs q).v (nth ns k) := fun {q k} hq hk => by
    rw [hrow hq]; unfold nth; simp [List.getD_eq_getElem?_getD, hk]
  have hv : ∀ {q : Nat}, q < vs.length → nth (vs.map HVoy.v) q = (nth vs q).v := fun {q} hq => by
    rw [nth_eq (by simpa using hq), nth_eq hq]; simp
  unfold segM confS
  rw [List.filter_filter]
  refine congrArg (List.map _) (List.filter_congr fun k hk => ?_)
  have hk' : k < ns.length := by simpa using hk
  rw [hst hi hk', hst hj hk', hv hi, hv hj]
  unfold barB barsV
  rw [hst hi hk', hst hj hk']
  unfold mayB
  rw [Bool.eq_iff_iff]
  simp only [Bool.and_eq_true, Bool.or_eq_true, decide_eq_true_eq]
  constructor
  · rintro ⟨h1, ⟨h2, h3⟩, h4⟩; exact ⟨h1, h2⟩
  · rintro ⟨h1, h2⟩; exact ⟨h1, ⟨h2, h1.1.1.1⟩, h1.1.1.2⟩
theorem conf_sorted {vs : List HVoy} {ns : List Nar} {rows : List HSt} (hr : rows.map (·.ss) = vs.map (fun h => ns.map (thrS h.v))) {ys : List Mt} (hp : ys.Perm (confJ vs ns rows vs.length)) (ha : Asc cfM ys) : ys = confL (vs.map HVoy.v) ns := by
  have e : confJ vs ns rows vs.length = (List.range vs.length).flatMap fun j => (List.range j).flatMap fun i => confS (vs.map HVoy.v) ns i j := by
    unfold confJ
    refine fm_congr fun j hj => fm_congr fun i hi => ?_
    have h1 : j < vs.length := by simpa using hj
    have h2 : i < j := by simpa using hi
    exact seg_conf hr (by omega) h1
  have hp2 : ys.Perm (confL (vs.map HVoy.v) ns) := by
    refine hp.trans ?_
    rw [e]
    unfold confL
    rw [List.length_map]
    exact tri_perm _ _
  have hL : (confL (vs.map HVoy.v) ns).Pairwise ltM := by
    unfold confL
    refine tri_asc _ _ (fun i j x hx => ?_) (fun i j => ?_)
    · unfold confS at hx
      obtain ⟨k, _, rfl⟩ := List.mem_map.1 hx
      exact ⟨rfl, rfl⟩
    · unfold confS
      rw [List.pairwise_map]
      exact (List.pairwise_lt_range).filter _
  refine List.Perm.eq_of_pairwise (le := fun x y => ¬ ltM y x) ?_ ?_ (hL.imp ?_) hp2
  · intro x y _ _ h1 h2
    obtain ⟨a, b, c⟩ := x
    obtain ⟨a', b', c'⟩ := y
    unfold ltM at h1 h2
    simp only at h1 h2
    simp only [Mt.mk.injEq]
    omega
  · rw [List.pairwise_iff_getElem]
    intro i j hi hj hij h
    have h3 := ha i j hij hj
    rw [cfM_lt, nth_eq hi, nth_eq hj] at h3
    exact h3 h
  · intro x y h h2
    unfold ltM at h h2; omega
theorem own35 : Own Tryz.prog 35 := ⟨Tryz.f35, func35, by kernel_rfl, by kernel_rfl⟩
theorem compare3_c (x1 x2 x3 y1 y2 y3 : Int) (bx cy : Nat) (w0 : World) (hx : Blk w0 bx 3 [.int .i64 x1, .int .i64 x2, .int .i64 x3]) (hy : Blk w0 cy 3 [.int .i64 y1, .int .i64 y2, .int .i64 y3]) :
    CallsV Tryz.prog 37 [.slice (some ⟨bx, 0, none⟩) 3 3, .slice (some ⟨cy, 0, none⟩) 3 3] w0 (fun v w' => (v = .int .i64 (cm3 x1 x2 x3 y1 y2 y3) ∧ Gr w0 w') ∧ Ext w0 w') := by
 refine f_n func37 ?_
 refine go ?_
 refine c_rounds 5 (WR.weak [(0, .slice (some ⟨bx, 0, none⟩) 3 3), (1, .slice (some ⟨cy, 0, none⟩) 3 3), (9, .slice (some ⟨bx, 0, none⟩) 3 3), (10, .int .i64 3), (11, .int .i64 0)] ⟨rfl, rfl, rfl, rfl, rfl, trivial⟩ (r_round fun K4 hK4 => (q_of ?_)))
 refine go ?_
 refine t_index (j := 0) underlying38 sizeOf3 rfl rfl rfl rfl rfl rfl (by omega) ?_
 refine go ?_
 refine t_index (j := 0) underlying38 sizeOf3 rfl rfl rfl rfl rfl rfl (by omega) ?_
 refine go ?_
 refine t_call own93 rfl rfl rfl rfl (cmpI_c x1 y1 _) (fun v13 w14 r16 => ?_)
 obtain ⟨⟨rfl, Gu15⟩, u15⟩ := r16
 have zu15 := u15.size
 refine go ?_
 refine q_p (fun g28 => ?_) fun g28 => ?_
 ·
  refine go ?_
  refine f_1 results37 ?_
  exact ⟨⟨congrArg (Value.int .i64) (by unfold cm3; simp_all), ((Gr.refl _).trans Gu15)⟩, u_d⟩
 refine go ?_
 refine hK4 _ _ (WR.weak [(0, .slice (some ⟨bx, 0, none⟩) 3 3), (1, .slice (some ⟨cy, 0, none⟩) 3 3), (9, .slice (some ⟨bx, 0, none⟩) 3 3), (10, .int .i64 3), (11, .int .i64 1)] ⟨rfl, rfl, rfl, rfl, rfl, trivial⟩ (r_round fun K20 hK20 => (q_of ?_)))
 refine go ?_
 refine t_index (j := 1) underlying38 sizeOf3 rfl rfl rfl rfl rfl rfl (by omega) ?_
 refine go ?_
 refine t_index (j := 1) underlying38 sizeOf3 rfl rfl rfl rfl rfl rfl (by omega) ?_
 refine go ?_
 refine t_call own93 rfl rfl rfl rfl (cmpI_c x2 y2 _) (fun v29 w30 r32 => ?_)
 obtain ⟨⟨rfl, Gu31⟩, u31⟩ := r32
 have zu31 := u31.size
 refine go ?_
 refine q_p (fun g28 => ?_) fun g28 => ?_
 ·
  refine go ?_
  refine f_1 results37 ?_
  exact ⟨⟨congrArg (Value.int .i64) (by unfold cm3; simp_all), (((Gr.refl _).trans Gu15).trans Gu31)⟩, u_d⟩
 refine go ?_
 refine hK20 _ _ (WR.weak [(0, .slice (some ⟨bx, 0, none⟩) 3 3), (1, .slice (some ⟨cy, 0, none⟩) 3 3), (9, .slice (some ⟨bx, 0, none⟩) 3 3), (10, .int .i64 3), (11, .int .i64 2)] ⟨rfl, rfl, rfl, rfl, rfl, trivial⟩ (r_round fun K36 hK36 => (q_of ?_)))
 refine go ?_
 refine t_index (j := 2) underlying38 sizeOf3 rfl rfl rfl rfl rfl rfl (by omega) ?_
 refine go ?_
 refine t_index (j := 2) underlying38 sizeOf3 rfl rfl rfl rfl rfl rfl (by omega) ?_
 refine go ?_
 refine t_call own93 rfl rfl rfl rfl (cmpI_c x3 y3 _) (fun v45 w46 r48 => ?_)
 obtain ⟨⟨rfl, Gu47⟩, u47⟩ := r48
 have zu47 := u47.size
 refine go ?_
 refine q_p (fun g28 => ?_) fun g28 => ?_
 ·
  refine go ?_
  refine f_1 results37 ?_
  exact ⟨⟨congrArg (Value.int .i64) (by unfold cm3; simp_all), ((((Gr.refl _).trans Gu15).trans Gu31).trans Gu47)⟩, u_d⟩
 refine go ?_
 refine hK36 _ _ (WR.weak [(0, .slice (some ⟨bx, 0, none⟩) 3 3), (1, .slice (some ⟨cy, 0, none⟩) 3 3), (9, .slice (some ⟨bx, 0, none⟩) 3 3), (10, .int .i64 3), (11, .int .i64 3)] ⟨rfl, rfl, rfl, rfl, rfl, trivial⟩ (r_round fun K52 hK52 => (q_of ?_)))
 refine go ?_
 refine f_1 results37 ?_
 exact ⟨⟨congrArg (Value.int .i64) (by unfold cm3; simp_all), ((((Gr.refl _).trans Gu15).trans Gu31).trans Gu47)⟩, u_d⟩
theorem conf1_c (x y : Mt) (w0 : World) :
    CallsV Tryz.prog 36 [.agg #[.int .i64 (x.a : Int), .int .i64 (x.b : Int), .int .i64 (x.k : Int)], .agg #[.int .i64 (y.a : Int), .int .i64 (y.b : Int), .int .i64 (y.k : Int)]] w0 (fun v w' => (v = .int .i64 (cfM x y) ∧ Gr w0 w') ∧ Ext w0 w') := by
 refine f_n func36 ?_
 refine go ?_
 refine t_boxG (cs := [.int .i64 (x.a : Int), .int .i64 (x.b : Int), .int .i64 (x.k : Int)]) rfl rfl rfl rfl (fun bk2 w3 ebk2 sbk2 B4 u5 Gu5 => ?_)
 refine t_boxG (cs := [.int .i64 (y.a : Int), .int .i64 (y.b : Int), .int .i64 (y.k : Int)]) rfl rfl rfl rfl (fun bk7 w8 ebk7 sbk7 B9 u10 Gu10 => ?_)
 refine go ?_
 refine t_bsliceG (ps := [(0, .int .i64 (x.a : Int)), (1, .int .i64 (x.b : Int)), (2, .int .i64 (x.k : Int))]) (cs := [.int .i64 (x.a : Int), .int .i64 (x.b : Int), .int .i64 (x.k : Int)]) (e := 3) rfl rfl ⟨rfl, rfl⟩ (fun w => by kernel_rfl) (fun bk13 w14 ebk13 sbk13 B15 u16 Gu16 => ?_)
 refine go ?_
 refine t_bsliceG (ps := [(0, .int .i64 (y.a : Int)), (1, .int .i64 (y.b : Int)), (2, .int .i64 (y.k : Int))]) (cs := [.int .i64 (y.a : Int), .int .i64 (y.b : Int), .int .i64 (y.k : Int)]) (e := 3) rfl rfl ⟨rfl, rfl⟩ (fun w => by kernel_rfl) (fun bk18 w19 ebk18 sbk18 B20 u21 Gu21 => ?_)
 have B23 := (B15.kx u21)
 refine t_call own37 rfl rfl rfl rfl (compare3_c (x.a : Int) (x.b : Int) (x.k : Int) (y.a : Int) (y.b : Int) (y.k : Int) bk13 bk18 _ B23 B20) (fun v24 w25 r27 => ?_)
 obtain ⟨⟨rfl, Gu26⟩, u26⟩ := r27
 have zu26 := u26.size
 refine go ?_
 refine f_1 results36 ?_
 exact ⟨⟨rfl, ((((((Gr.refl _).trans Gu5).trans Gu10).trans Gu16).trans Gu21).trans Gu26)⟩, u_d⟩
theorem conf1_ok : CmpOk Tryz.prog 36 encMt cfM := fun x y W => by
  refine Calls.mono (conf1_c x y W) ?_
  rintro e w' ⟨v, rfl, ⟨rfl, hg⟩, _⟩
  exact ⟨rfl, hg.grow⟩

/-- What the range over the narrows has gathered so far. -/
def ConC (ns : List Nar) (vs : List HVoy) (rows : List HSt) (z y b12 base g2 : Nat) (cs : List Mt) (wR : World) (k : Nat) (W : World) : Prop :=
  Upd (fun q => q = b12 ∨ (q = g2 ∧ base ≤ q) ∨ q = wR.heap.size + 1) wR W ∧ ∃ (ao4 : Option Addr) (g4 c4 : Nat) (cs4 : List Mt), Blk W b12 44 [.slice ao4 cs4.length c4] ∧ Acc encMt 3 122 base W ao4 g4 c4 cs4 ∧
    cs4 = cs ++ (((List.range k).filter (barB vs ns rows z y)).filter fun k => mayB (nth (nth rows z).ss k) (nth (nth rows y).ss k)).map (fun k => (⟨z, y, k⟩ : Mt)) ∧ (g4 = g2 ∨ wR.heap.size ≤ g4) ∧ cs4.length ≤ cs.length + k
section
variable {ns : List Nar} {vs : List HVoy} {rows : List HSt} {z y b12 base g2 : Nat} {cs : List Mt} {wR : World}
theorem ConC.ext (k : Nat) (W W' : World) (q : ConC ns vs rows z y b12 base g2 cs wR k W) (u : Ext W W') : ConC ns vs rows z y b12 base g2 cs wR k W' := by
  obtain ⟨h0, a, g, c, xs, h1, h2, h3, h4, h5⟩ := q
  exact ⟨h0.nx u, a, g, c, xs, h1.keep u (fun h => h), h2.keep u (fun _ h => h), h3, h4, h5⟩
theorem ConC.skip {k : Nat} {W : World} (hb : barB vs ns rows z y k = false) (q : ConC ns vs rows z y b12 base g2 cs wR k W) : ConC ns vs rows z y b12 base g2 cs wR (k + 1) W := by
  obtain ⟨h0, a, g, c, xs, h1, h2, h3, h4, h5⟩ := q
  exact ⟨h0, a, g, c, xs, h1, h2, by rw [filter_succ, if_neg (by rw [hb]; exact Bool.false_ne_true), List.append_nil]; exact h3, h4, by omega⟩
theorem ConC.turned (hb : b12 < wR.heap.size) (k : Nat) (W W' : World) (q : ConC ns vs rows z y b12 base g2 cs wR k W) (hl : ∃ r, W.heap[wR.heap.size + 1]? = some (.loop r)) (u : Upd (· = wR.heap.size + 1) W W') : ConC ns vs rows z y b12 base g2 cs wR k W' := by
  obtain ⟨h0, a, g, c, xs, h1, h2, h3, h4, h5⟩ := q
  exact ⟨h0.trans (u.mono fun i e => .inr (.inr e)), a, g, c, xs, h1.keep u (by omega), h2.keep u (fun hb e => h2.noLoop hl hb e), h3, h4, h5⟩
end
set_option maxHeartbeats 4000000 in
theorem Conflicts_c (vs : List HVoy) (ns : List Nar) (av an : Option Addr) (bv ov bn on cv cn : Nat) (w0 : World) (hs : Sl encHVoy 5 w0 av bv ov vs) (hruns : ∀ x ∈ vs, Sl encRun 6 w0 x.ao x.b x.o x.v.runs) (hrl : ∀ x ∈ vs, x.v.runs.length ≤ 1000000) (hn : Sl encNar 4 w0 an bn on ns) (hvl : vs.length ≤ 1000000) (hnl : ns.length ≤ 1000000) :
    CallsV Tryz.prog 10 [.slice av vs.length cv, .slice an ns.length cn] w0 (fun v w' => ((OpenE (vs.map HVoy.v) ns ≠ 0 ∧ v = .tuple #[.slice none 0 0, .int .i64 (OpenE (vs.map HVoy.v) ns)]) ∨ (OpenE (vs.map HVoy.v) ns = 0 ∧ ∃ ao b cap, v = .tuple #[.slice ao (confL (vs.map HVoy.v) ns).length cap, .int .i64 0] ∧ Sl encMt 3 w' ao b 0 (confL (vs.map HVoy.v) ns))) ∧ Ext w0 w') := by
 refine f_enterM (N := 66) func10 rfl rfl rfl (q_of ?_)
 refine go ?_
 refine x_n fun bk2 w3 ebk2 sbk2 B4 u5 => ?_
 have E6 := Sc.mk ((Upd.refl (fun _ => False) w0).nx u5)
 refine go ?_
 refine t_call own27 rfl rfl rfl rfl (open_cV vs ns av an bv ov bn on cv cn _ (hs.keep E6.u (fun _ h => h)) (fun x hx => (hruns x hx).keep E6.u (fun _ h => h)) hrl (hn.keep E6.u (fun _ h => h)) hvl hnl) (fun v8 w9 r11 => ?_)
 obtain ⟨p, rfl, hop, hop2, u10⟩ := r11
 have zu10 := u10.size
 obtain ⟨po, rfl⟩ : ∃ o, p = .pointer o := by
   by_cases h : OpenE (vs.map HVoy.v) ns = 0
   · obtain ⟨t, _, _, _, _, _, h1, _, _⟩ := hop h; exact ⟨_, h1⟩
   · exact ⟨_, hop2 h⟩
 refine go ?_
 refine x_n fun bk13 w14 ebk13 sbk13 B15 u16 => ?_
 refine x_s fun w18 sw18 B20 u19 => ?_
 have E21 := Sc.mk (((E6.u.nx u10).nx u16).next u19 (fun i hi h => by omega))
 refine go ?_
 refine q_p (fun g17 => ?_) fun g17 => ?_
 ·
  refine go ?_
  have B25 := (((B4.kx u10).kx u16).keep u19 (by omega))
  refine x_s fun w26 sw26 B28 u27 => ?_
  refine go ?_
  have D32 := ((((((show Marks w0.heap.size [] w0 from trivial).keep u5 (CellsIn.none _)).keep u10 (CellsIn.none _)).keep u16 (CellsIn.none _)).keep u19 (B15).cellsIn).keep u27 (B25).cellsIn)
  have hmkE := D32
  refine f_retMc2 (v1 := .slice none 0 0) (v2 := .int .i64 (OpenE (vs.map HVoy.v) ns)) results10 (.cell D32 rfl isAgg44 B28 rfl) (.tmp rfl) D32 (fun w30 u31 omw30 => ?_)
  have zu31 := u31.size
  exact ⟨.inl ⟨g17, rfl⟩, ((E21.u.next u27 (fun i hi h => by omega)).next u31 (fun i hi (h : w0.heap.size ≤ i) => show False by first | omega | assumption))⟩
 have B34 := (((B4.kx u10).kx u16).keep u19 (by omega))
 have hE : OpenE (vs.map HVoy.v) ns = 0 := Decidable.not_not.1 g17
 obtain ⟨t, rows, lim, ar, br, cr, hpo, htr, hfT⟩ := hop hE
 obtain rfl : po = some ⟨t, 0, none⟩ := by simpa using hpo
 have hll := htr.ll
 have htl := htr.tl
 have hfew := htr.few
 have htb := htr.blk
 have hrw := htr.rowlen
 have hft1 := hfT.1
 have hl4 := B34.lt
 have hoff : TrafOff (fun i => i = bk2) t vs ns rows bv bn br := ⟨by have := hfT.1; omega, fun hp => by have := hs.lt hp; omega, fun hp => by have := hn.lt hp; omega, fun hp => by have := hfT.2.1 hp; omega, fun r hr hp => by have := hfT.2.2 r hr hp; omega⟩
 refine go ?_
 have D37 := (((((show Marks w0.heap.size [] w0 from trivial).keep u5 (CellsIn.none _)).keep u10 (CellsIn.none _)).keep u16 (CellsIn.none _)).keep u19 (B15).cellsIn)
 refine q_loopm (γ := Nat × Option Addr × Nat × Nat × List Mt × List Deferred) (fun gg => [(4, .pointer (some ⟨bk2, 0, none⟩)), (6, .pointer (some ⟨bk13, 0, none⟩)), (20, .int .i64 (vs.length : Int)), (21, .int .i64 (gg.1 : Int))]) (fun gg => gg.2.2.2.2.2) (fun gg w => Upd (fun i => i = bk2) w18 w ∧ Blk w bk2 44 [.slice gg.2.1 gg.2.2.2.2.1.length gg.2.2.2.1] ∧ (gg.1 ≤ vs.length) ∧ (gg.2.2.2.2.1 = confJ vs ns rows gg.1) ∧ (gg.2.2.2.2.1.length ≤ 240 * gg.1) ∧ (Acc encMt 3 122 w18.heap.size w gg.2.1 gg.2.2.1 gg.2.2.2.1 gg.2.2.2.2.1) ∧ (Marks w0.heap.size gg.2.2.2.2.2 w)) (fun gg => vs.length - gg.1) (0, none, 0, 0, [], []) rfl ⟨rfl, rfl, rfl, rfl, trivial⟩ ⟨Upd.refl _ _, B34, (Nat.zero_le _), rfl, (Nat.zero_le _), (Acc.nil _ _ _ _ _ (by omega) (Nat.le_refl _)), D37⟩ ?_
 intro gg w39 hW K38 hK38
 obtain ⟨y, ao2, g2, c2, cs2, dl⟩ := gg
 change WC _ _ _ _ _ _ [(4, .pointer (some ⟨bk2, 0, none⟩)), (6, .pointer (some ⟨bk13, 0, none⟩)), (20, .int .i64 (vs.length : Int)), (21, .int .i64 (y : Int))] _
 change Upd (fun i => i = bk2) w18 w39 ∧ Blk w39 bk2 44 [.slice ao2 cs2.length c2] ∧ (y ≤ vs.length) ∧ (cs2 = confJ vs ns rows y) ∧ (cs2.length ≤ 240 * y) ∧ (Acc encMt 3 122 w18.heap.size w39 ao2 g2 c2 cs2) ∧ (Marks w0.heap.size dl w39) at hW
 obtain ⟨u40, I41, I42, I43, I44, I45, I46⟩ := hW
 have zu40 := u40.size
 have hy := I42; clear I42
 have hcs2 := I43; clear I43
 have hcl2 := I44; clear I44
 have hacc2 := I45; clear I45
 have hmk := I46; clear I46
 have lt_g2 := hacc2.lt
 refine go ?_
 refine q_p (fun g22 => ?_) fun g22 => ?_
 ·
  refine go ?_
  refine x_n fun bk52 w53 ebk52 sbk52 B54 u55 => ?_
  refine x_s fun w57 sw57 B59 u58 => ?_
  refine go ?_
  have D62 := ((hacc2.keep u55 (fun _ h => h)).keep u58 (fun hb => show ¬ (g2 = bk52) by first | omega | assumption))
  have D63 := ((hmk.keep u55 (CellsIn.none _)).keep u58 (B54).cellsIn)
  have B64 := ((I41.kx u55).keep u58 (by omega))
  refine q_loopm (γ := Nat × Option Addr × Nat × Nat × List Mt × List Deferred) (fun gg => [(4, .pointer (some ⟨bk2, 0, none⟩)), (6, .pointer (some ⟨bk13, 0, none⟩)), (7, .pointer (some ⟨bk52, 0, none⟩)), (20, .int .i64 (vs.length : Int)), (21, .int .i64 (y : Int)), (24, .int .i64 (y : Int)), (25, .int .i64 (gg.1 : Int))]) (fun gg => gg.2.2.2.2.2) (fun gg w => Upd (fun i => i = bk2 ∨ (i = g2 ∧ w18.heap.size ≤ i)) w57 w ∧ Blk w bk2 44 [.slice gg.2.1 gg.2.2.2.2.1.length gg.2.2.2.1] ∧ (gg.1 ≤ y) ∧ (gg.2.2.2.2.1 = cs2 ++ (List.range gg.1).flatMap fun i => segM vs ns rows i y) ∧ (gg.2.2.2.2.1.length ≤ 240 * y + 20 * gg.1) ∧ (Acc encMt 3 122 w18.heap.size w gg.2.1 gg.2.2.1 gg.2.2.2.1 gg.2.2.2.2.1) ∧ (gg.2.2.1 = g2 ∨ w57.heap.size ≤ gg.2.2.1) ∧ (Marks w0.heap.size gg.2.2.2.2.2 w)) (fun gg => y - gg.1) (0, ao2, g2, c2, cs2, dl) rfl ⟨rfl, rfl, rfl, rfl, rfl, rfl, rfl, trivial⟩ ⟨Upd.refl _ _, B64, (Nat.zero_le _), (by simp), (by show cs2.length ≤ 240 * y + 20 * 0; omega), D62, (.inl rfl), D63⟩ ?_
  intro gg w66 hW K65 hK65
  obtain ⟨z, ao3, g3, c3, cs3, dl3⟩ := gg
  change WC _ _ _ _ _ _ [(4, .pointer (some ⟨bk2, 0, none⟩)), (6, .pointer (some ⟨bk13, 0, none⟩)), (7, .pointer (some ⟨bk52, 0, none⟩)), (20, .int .i64 (vs.length : Int)), (21, .int .i64 (y : Int)), (24, .int .i64 (y : Int)), (25, .int .i64 (z : Int))] _
  change Upd (fun i => i = bk2 ∨ (i = g2 ∧ w18.heap.size ≤ i)) w57 w66 ∧ Blk w66 bk2 44 [.slice ao3 cs3.length c3] ∧ (z ≤ y) ∧ (cs3 = cs2 ++ (List.range z).flatMap fun i => segM vs ns rows i y) ∧ (cs3.length ≤ 240 * y + 20 * z) ∧ (Acc encMt 3 122 w18.heap.size w66 ao3 g3 c3 cs3) ∧ (g3 = g2 ∨ w57.heap.size ≤ g3) ∧ (Marks w0.heap.size dl3 w66) at hW
  obtain ⟨u67, I68, I69, I70, I71, I72, I73, I74⟩ := hW
  have zu67 := u67.size
  have hi := I69; clear I69
  have hcs3 := I70; clear I70
  have hcl3 := I71; clear I71
  have hacc3 := I72; clear I72
  have hg3 := I73; clear I73
  have hmk3 := I74; clear I74
  have lt_g3 := hacc3.lt
  refine go ?_
  refine q_p (fun g26 => ?_) fun g26 => ?_
  ·
   refine go ?_
   refine x_n fun bk80 w81 ebk80 sbk80 B82 u83 => ?_
   refine x_s fun w85 sw85 B87 u86 => ?_
   refine go ?_
   refine x_c func33 rfl rfl (bars_c t z y _) ?_
   rintro _ w91 ⟨⟨b3, b4, b5, rfl, hgb3, hgb4, hgb5, hBb3, hBb4, hBb5⟩, u92⟩ zu92
   refine go ?_
   have B95 := (((I68.kx u83).keep u86 (by omega)).kx u92)
   have D96 := (((hacc3.keep u83 (fun _ h => h)).keep u86 (fun hb => show ¬ (g3 = bk80) by first | omega | assumption)).keep u92 (fun _ h => h))
   have D97 := (((((((((htr.keep u16 (fun _ _ h => h)).keepT u19 (htr.offX hoff (fun i hi hne => show ¬ (i = bk13) by omega))).keepT u40 (htr.offX hoff (fun i hi hne => show ¬ (i = bk2) by omega))).keep u55 (fun _ _ h => h)).keepT u58 (htr.offX hoff (fun i hi hne => show ¬ (i = bk52) by omega))).keepT u67 (htr.offX hoff (fun i hi hne => show ¬ (i = bk2 ∨ (i = g2 ∧ w18.heap.size ≤ i)) by omega))).keep u83 (fun _ _ h => h)).keepT u86 (htr.offX hoff (fun i hi hne => show ¬ (i = bk80) by omega))).keep u92 (fun _ _ h => h))
   have B98 := ((((B59.keep u67 (by omega)).kx u83).keep u86 (by omega)).kx u92)
   have B99 := (B87.kx u92)
   have B100 := (((((((B20.keep u40 (by omega)).kx u55).keep u58 (by omega)).keep u67 (by omega)).kx u83).keep u86 (by omega)).kx u92)
   have htR := D97
   have haR := D96
   have hbR := B95
   have hl3 := hBb3.lt
   have hl4q := hBb4.lt
   have hl5 := hBb5.lt
   have hl12 := hbR.lt
   have hl7 := B98.lt
   have hl8 := B99.lt
   have hl6 := B100.lt
   have hzv : z < vs.length := by omega
   have hyv : y < vs.length := by omega
   have hoR : TrafOff (fun q => q = bk2 ∨ (q = g3 ∧ w18.heap.size ≤ q) ∨ w91.heap.size ≤ q) t vs ns rows bv bn br := htr.offX hoff fun q hq hne => show ¬ (q = bk2 ∨ (q = g3 ∧ w18.heap.size ≤ q) ∨ w91.heap.size ≤ q) by omega
   refine WC.weak [(4, .pointer (some ⟨bk2, 0, none⟩)), (6, .pointer (some ⟨bk13, 0, none⟩)), (7, .pointer (some ⟨bk52, 0, none⟩)), (8, .pointer (some ⟨bk80, 0, none⟩)), (20, .int .i64 (vs.length : Int)), (21, .int .i64 (y : Int)), (24, .int .i64 (y : Int)), (25, .int .i64 (z : Int)), (31, .func (.func 90) #[] #[.pointer (some ⟨b3, 0, none⟩), .pointer (some ⟨b4, 0, none⟩), .pointer (some ⟨b5, 0, none⟩)])] ⟨rfl, rfl, rfl, rfl, rfl, rfl, rfl, rfl, rfl, trivial⟩ (c_rangeZ (γ := BkE) (δ := Unit) (lb := [.pointer (some ⟨b3, 0, none⟩), .pointer (some ⟨b4, 0, none⟩), .pointer (some ⟨b5, 0, none⟩)]) (enc := (fun x : BkE => .int .i64 (x.i : Int))) own90 rfl rfl (YBr ns.length w91.heap.size (barB vs ns rows z y) (fun q => q = bk2 ∨ (q = g3 ∧ w18.heap.size ≤ q) ∨ w91.heap.size ≤ q) (ConC ns vs rows z y bk2 w18.heap.size g3 cs3 w91)) (ZBr (fun q => q = bk2 ∨ (q = g3 ∧ w18.heap.size ≤ q) ∨ w91.heap.size ≤ q) (ConC ns vs rows z y bk2 w18.heap.size g3 cs3 w91)) ((ConC ns vs rows z y bk2 w18.heap.size g3 cs3 w91) ns.length) (fun x W W' q hl u => ⟨ConC.turned hl12 _ _ _ q.1 hl u, q.2.trans (u.mono fun q e => show q = bk2 ∨ (q = g3 ∧ w18.heap.size ≤ q) ∨ w91.heap.size ≤ q by omega)⟩) (fun _ W W' q hl u => ConC.turned hl12 _ _ _ q hl u) ?_ (fun x d => [(4, .pointer (some ⟨bk2, 0, none⟩)), (6, .pointer (some ⟨bk13, 0, none⟩)), (7, .pointer (some ⟨bk52, 0, none⟩)), (8, .pointer (some ⟨bk80, 0, none⟩)), (9, .int .i64 (x.i : Int)), (20, .int .i64 (vs.length : Int)), (21, .int .i64 (y : Int)), (24, .int .i64 (y : Int)), (25, .int .i64 (z : Int))]) (HolY ns.length (barB vs ns rows z y) (fun q => q = bk2 ∨ (q = g3 ∧ w18.heap.size ≤ q) ∨ w91.heap.size ≤ q) (ConC ns vs rows z y bk2 w18.heap.size g3 cs3 w91)) (fun d x W W' q hl u => ⟨q.1, q.2.1, ConC.turned hl12 _ _ _ q.2.2.1 hl u, q.2.2.2.trans (u.mono fun q e => show q = bk2 ∨ (q = g3 ∧ w18.heap.size ≤ q) ∨ w91.heap.size ≤ q by omega)⟩) ?_ ?_ ?_)
   ·
    intro l1 D R W hD hl9 hsz hE1 hH hR
    subst hD hl9
    refine (bars1_c lim t vs ns rows av an ar bv ov bn on br cv cn cr z y b3 b4 b5 _ _ (fun q => q = bk2 ∨ (q = g3 ∧ w18.heap.size ≤ q) ∨ w91.heap.size ≤ q) (ConC ns vs rows z y bk2 w18.heap.size g3 cs3 w91) R W hzv hyv (fun k W W' q u => ConC.ext k W W' q u) (fun k W (qq : (ConC ns vs rows z y bk2 w18.heap.size g3 cs3 w91) k W) => (⟨htR.keepT qq.1 (htr.offX hoff fun q hq hne => show ¬ (q = bk2 ∨ (q = g3 ∧ w18.heap.size ≤ q) ∨ q = (w91.heap.size + 1)) by omega), hBb3.keep qq.1 (show ¬ (b3 = bk2 ∨ (b3 = g3 ∧ w18.heap.size ≤ b3) ∨ b3 = (w91.heap.size + 1)) by omega), hBb4.keep qq.1 (show ¬ (b4 = bk2 ∨ (b4 = g3 ∧ w18.heap.size ≤ b4) ∨ b4 = (w91.heap.size + 1)) by omega), hBb5.keep qq.1 (show ¬ (b5 = bk2 ∨ (b5 = g3 ∧ w18.heap.size ≤ b5) ∨ b5 = (w91.heap.size + 1)) by omega)⟩ : Traf lim t vs ns rows av an ar bv ov bn on br cv cn cr W ∧ Blk W b3 103 [.pointer (some ⟨t, 0, none⟩)] ∧ Blk W b4 3 [.int .i64 (z : Int)] ∧ Blk W b5 3 [.int .i64 (y : Int)])) (fun k W hk hb q => ConC.skip hb q) hH hoR (show ¬ (b3 = bk2 ∨ (b3 = g3 ∧ w18.heap.size ≤ b3) ∨ w91.heap.size ≤ b3) by omega) (show ¬ (b4 = bk2 ∨ (b4 = g3 ∧ w18.heap.size ≤ b4) ∨ w91.heap.size ≤ b4) by omega) (show ¬ (b5 = bk2 ∨ (b5 = g3 ∧ w18.heap.size ≤ b5) ∨ w91.heap.size ≤ b5) by omega) ?_ hR (by omega)).mono fun _ _ q => q
    exact ⟨Ext.to hE1, ao3, g3, c3, cs3, hbR.keep hE1 (fun h => h), haR.keep hE1 (fun _ h => h), by simp, .inl rfl, by omega⟩
   ·
    intro lq x W K101 hI hK101
    change WC _ _ _ _ _ _ [(32, .int .i64 (x.i : Int)), (4, .pointer (some ⟨bk2, 0, none⟩)), (6, .pointer (some ⟨bk13, 0, none⟩)), (7, .pointer (some ⟨bk52, 0, none⟩)), (8, .pointer (some ⟨bk80, 0, none⟩)), (20, .int .i64 (vs.length : Int)), (21, .int .i64 (y : Int)), (24, .int .i64 (y : Int)), (25, .int .i64 (z : Int)), (31, .func (.func 90) #[] #[.pointer (some ⟨b3, 0, none⟩), .pointer (some ⟨b4, 0, none⟩), .pointer (some ⟨b5, 0, none⟩)])] _
    refine (q_of ?_)
    have E000 := Sc.mk (Upd.refl (fun _ => False) W)
    obtain ⟨hi1, hp1, hC1, hD1, hU1⟩ := hI
    refine go ?_
    exact hK101 () _ _ ⟨rfl, rfl, rfl, rfl, rfl, rfl, rfl, rfl, rfl, trivial⟩ E000.u ⟨hi1, hp1, ConC.ext _ _ _ hC1 E000.u, hU1.trans (Ext.to E000.u)⟩
   ·
    intro lq x d w102 hY
    obtain ⟨hi1, hp1, hC1, hU1⟩ := hY
    obtain ⟨u103, ao4, g4, c4, cs4, hB49, hA49, hcs4, hg4, hcl4⟩ := hC1
    have zu103 := u103.size
    have lt_g4 := hA49.lt
    have hri := congrArg List.length (htr.row hzv)
    have hrj := congrArg List.length (htr.row hyv)
    rw [List.length_map] at hri hrj
    change WC _ _ _ _ _ _ [(4, .pointer (some ⟨bk2, 0, none⟩)), (6, .pointer (some ⟨bk13, 0, none⟩)), (7, .pointer (some ⟨bk52, 0, none⟩)), (8, .pointer (some ⟨bk80, 0, none⟩)), (9, .int .i64 (x.i : Int)), (20, .int .i64 (vs.length : Int)), (21, .int .i64 (y : Int)), (24, .int .i64 (y : Int)), (25, .int .i64 (z : Int))] _
    refine (q_of ?_)
    have hcellsR := ((hB49).cellsIn.or (hA49).cellsIn)
    refine go ?_
    refine c_drawnM follows (fun _ => False) (OTl [0, 2, 4, 6, 8, 10, 12, 14, 16, 18, 20, 22, 24, 26, 28, 30, 32, 34, 36, 38, 41]) (by kernel_rfl) fun w106 u107 => ?_
    have zu107 := u107.size
    refine go ?_
    have D109 := ((D97.keepT u103 (htr.offX hoff (fun i hi hne => show ¬ (i = bk2 ∨ (i = g3 ∧ w18.heap.size ≤ i) ∨ i = (w91.heap.size + 1)) by omega))).keep u107 (fun _ _ h => h))
    refine y_i z D109.ssl (fun _ => ?_)
    refine go ?_
    refine y_i x.i (D109.rsl (nth rows z) (nth_mem (by omega))) (fun _ => ?_)
    refine go ?_
    refine y_i y D109.ssl (fun _ => ?_)
    refine go ?_
    refine y_i x.i (D109.rsl (nth rows y) (nth_mem (by omega))) (fun _ => ?_)
    refine go ?_
    refine x_c func34 rfl rfl (may_c (nth ((nth rows z).ss) x.i) (nth ((nth rows y).ss) x.i) _) ?_
    rintro _ w115 ⟨rfl, u116⟩ zu116
    refine go ?_
    refine q_b (fun g53 => ?_) fun g53 => ?_
    ·
     refine go ?_
     refine x_l fun bk119 w120 ebk119 sbk119 B121 u122 => ?_
     have D124 := (((hA49.keep u107 (fun _ h => h)).keep u116 (fun _ h => h)).keep u122 (fun _ h => h))
     refine t_append (z := .agg #[.int .i64 0, .int .i64 0, .int .i64 0]) (bytes := 24) (k := 3) (base := w18.heap.size) (⟨z, y, x.1⟩ : Mt) underlying44 (by kernel_rfl) rfl (by decide) (fun _ => rfl) (by intro x; simp [encMt, Value.oneCell']) rfl rfl rfl rfl D124 B121 (by omega) (by omega) (by decide) (fun ao125 gb126 cp127 w128 A129 u130 gegb126 lngb126 => ?_)
     have zu130 := u130.size
     have lt_gb126 := A129.lt
     refine x_s fun w133 sw133 B135 u134 => ?_
     refine go ?_
     have hUr := ((((((Upd.refl (fun i => i = bk2 ∨ (i = g4 ∧ w18.heap.size ≤ i)) w102).nx u107).nx u116).nx u122).next u130 (fun i hi h => by omega)).next u134 (fun i hi h => by omega))
     have D137 := (A129.keep u134 (fun hb => show ¬ (gb126 = bk2) by first | omega | assumption))
     exact ⟨fun a ha => ⟨KeepsFrom.of_upd hUr hcellsR, ⟨⟨(((((u103.nx u107).nx u116).nx u122).next u130 (fun i hi (h : (i = g4 ∧ w18.heap.size ≤ i)) => show i = bk2 ∨ (i = g3 ∧ w18.heap.size ≤ i) ∨ i = (w91.heap.size + 1) by first | omega | assumption)).next u134 (fun i hi (h : i = bk2) => show i = bk2 ∨ (i = g3 ∧ w18.heap.size ≤ i) ∨ i = (w91.heap.size + 1) by first | omega | assumption)), ao125, gb126, cp127, (cs4 ++ [(⟨z, y, x.1⟩ : Mt)]), B135, D137, (by rw [hcs4, filter_succ, if_pos hp1, List.filter_append, List.map_append, List.append_assoc]; simp [g53]), (by omega), (by rw [List.length_append]; show _ + 1 ≤ _; omega)⟩, hU1.trans (hUr.mono fun q h => show q = bk2 ∨ (q = g3 ∧ w18.heap.size ≤ q) ∨ w91.heap.size ≤ q by omega)⟩⟩⟩
    refine go ?_
    have hUr := (((Upd.refl (fun i => i = bk2 ∨ (i = g4 ∧ w18.heap.size ≤ i)) w102).nx u107).nx u116)
    have D138 := ((hA49.keep u107 (fun _ h => h)).keep u116 (fun _ h => h))
    have B139 := ((hB49.kx u107).kx u116)
    exact ⟨fun a ha => ⟨KeepsFrom.of_upd hUr hcellsR, ⟨⟨((u103.nx u107).nx u116), ao4, g4, c4, cs4, B139, D138, (by rw [hcs4, filter_succ, if_pos hp1, List.filter_append, List.map_append, ← List.append_assoc]; simp [g53]), (by omega), (by omega)⟩, hU1.trans (hUr.mono fun q h => show q = bk2 ∨ (q = g3 ∧ w18.heap.size ≤ q) ∨ w91.heap.size ≤ q by omega)⟩⟩⟩
   ·
    have D142 := (((hmk3.keep u83 (CellsIn.none _)).keep u86 (B82).cellsIn).keep u92 (CellsIn.none _))
    have hmk0 := D142
    have hmc0 := (show CellsIn (fun i => i = bk2 ∨ (i = g3 ∧ w18.heap.size ≤ i) ∨ i = (w91.heap.size + 1)) w91 from fun k hk e => by
      rcases e with e | e | e
      · exact hbR.cellsIn k hk e
      · exact haR.cellsIn k hk e
      · omega)
    intro D141 w140 hD141 hE hdD141
    obtain ⟨u143, ao4, g4, c4, cs4, hB49, hA49, hcs4, hg4, hcl4⟩ := hE
    have zu143 := u143.size
    have lt_g4 := hA49.lt
    have mk145 := (hmk0.keep u143 hmc0).push (D := D141) (by omega) hdD141 (fun d hd D' e => Nat.lt_of_lt_of_le (hmk0.lt d hd D' e) hD141)
    refine go ?_
    exact hK65 (z + 1, ao4, g4, c4, cs4, (mark D141 :: dl3)) _ _ (by show y - (z + 1) < y - z; omega) ⟨rfl, rfl, rfl, rfl, rfl, rfl, rfl, trivial⟩ ⟨((((u67.nx u83).next u86 (fun i hi h => by omega)).nx u92).next u143 (fun i hi h => by omega)), hB49, (by show z + 1 ≤ y; omega), (by rw [hcs4, hcs3, seg_succ, List.append_assoc]; rfl), (by show cs4.length ≤ 240 * y + 20 * (z + 1); omega), hA49, (by show g4 = g2 ∨ w57.heap.size ≤ g4; omega), mk145⟩
  refine go ?_
  exact hK38 (y + 1, ao3, g3, c3, cs3, dl3) _ _ (by show vs.length - (y + 1) < vs.length - y; omega) ⟨rfl, rfl, rfl, rfl, trivial⟩ ⟨(((u40.nx u55).next u58 (fun i hi h => by omega)).next u67 (fun i hi h => by omega)), I68, (by omega), (by rw [hcs3, hcs2, confJ_succ, show z = y from by omega]), (by show cs3.length ≤ 240 * (y + 1); omega), hacc3, hmk3⟩
 refine go ?_
 have haccS := hacc2
 have hmkS0 := hmk
 refine t_call own35 rfl rfl rfl rfl (sort_c sortM 3 (by decide) isAgg122 sizeOf122 encMt (fun _ => rfl) (by intro x; simp [encMt, Value.oneCell']) cfM cfM_swo 36 own36 conf1_ok 122 w18.heap.size ao2 g2 c2 cs2 _ haccS (by omega)) (fun v147 w148 r150 => ?_)
 obtain ⟨ys, hperm, hasc, hays, u149, rfl⟩ := r150
 have zu149 := u149.size
 have hmkS := hmkS0.keep u149 haccS.cellsIn
 have hyl := hperm.length_eq
 have lt_g2 := hays.lt
 refine go ?_
 have B153 := (I41.keep u149 (by omega))
 have hbS := B153
 have hmkU := hmkS
 refine x_s fun w154 sw154 B156 u155 => ?_
 refine go ?_
 have D158 := (hays.keep u155 (fun hb => show ¬ (g2 = bk2) by first | omega | assumption))
 have hayE := D158
 have hayS := hayE.sl (fun _ => rfl)
 have hmkE := (hmkU.keep u155 hbS.cellsIn)
 refine f_retMc2 (v1 := .slice ao2 cs2.length c2) (v2 := .int .i64 0) results10 (.cell (hmkU.keep u155 hbS.cellsIn) rfl isAgg44 B156 rfl) (.tmp rfl) (hmkU.keep u155 hbS.cellsIn) (fun w159 u160 omw159 => ?_)
 have zu160 := u160.size
 exact ⟨.inr ⟨hE, ao2, g2, c2, by rw [← conf_sorted htr.eq (hperm.trans (by rw [hcs2, show y = vs.length from by omega])) hasc, hyl], by rw [← conf_sorted htr.eq (hperm.trans (by rw [hcs2, show y = vs.length from by omega])) hasc]; exact (hayS.keep omw159 (fun hp => hmkE.notAcc hayE hp))⟩, ((((E21.u.next u40 (fun i hi h => by omega)).next u149 (fun i hi h => by omega)).next u155 (fun i hi h => by omega)).next u160 (fun i hi (h : w0.heap.size ≤ i) => show False by first | omega | assumption))⟩

theorem ConfU_c (us : List HVoy) (ao : Option Addr) (b cap : Nat) (ns : List Nar) (an : Option Addr) (bn on cn : Nat) (vl : List Voy) (w0 : World) (hm : us.map HVoy.v = vl) (hs : Sl encHVoy 5 w0 ao b 0 us) (hruns : ∀ x ∈ us, Sl encRun 6 w0 x.ao x.b x.o x.v.runs) (hn : Sl encNar 4 w0 an bn on ns) (hl : vl.length ≤ 1000000) (hrl : ∀ v ∈ vl, v.runs.length ≤ 1000000) (hnl : ns.length ≤ 1000000) :
    CallsV Tryz.prog 10 [.slice ao us.length cap, .slice an ns.length cn] w0 (fun v w' => (∃ ms e ao b cap, v = .tuple #[.slice ao ms.length cap, .int .i64 e] ∧ Sl encMt 3 w' ao b 0 ms ∧ e = OpenE vl ns ∧ (e ≠ 0 → ms = []) ∧ (e = 0 → ms = confL vl ns)) ∧ Ext w0 w') := by
  subst hm
  refine (Conflicts_c us ns ao an b 0 bn on cap cn w0 hs hruns (fun x hx => hrl x.v (List.mem_map.2 ⟨x, hx, rfl⟩)) hn (by rw [List.length_map] at hl; exact hl) hnl).mono ?_
  rintro v w' ⟨h, u⟩
  refine ⟨?_, u⟩
  rcases h with ⟨h1, rfl⟩ | ⟨h1, ao, b, cap, rfl, h2⟩
  · exact ⟨[], _, none, 0, 0, rfl, Sl.nil _ _ _ _ _ _, rfl, fun _ => rfl, fun h => absurd h h1⟩
  · exact ⟨_, _, ao, b, cap, rfl, h2, h1.symm, fun h => absurd rfl h, fun _ => rfl⟩

end Go.Proofs.YtclinbbghnebaaaGreat
namespace Go.Proofs.YtclinbbghnebaaaGreat
open Go Go.RowKit
set_option maxRecDepth 10000

/-- Two lists in strict order with the same members are one. -/
theorem sorted_ext {α : Type} {R : α → α → Prop} (ha : ∀ a b, R a b → ¬ R b a) : ∀ {xs ys : List α}, xs.Pairwise R → ys.Pairwise R → (∀ x, x ∈ xs ↔ x ∈ ys) → xs = ys
  | [], [], _, _, _ => rfl
  | [], y :: ys, _, _, h => absurd ((h y).2 (by simp)) (by simp)
  | x :: xs, [], _, _, h => absurd ((h x).1 (by simp)) (by simp)
  | x :: xs, y :: ys, hx, hy, h => by
    rw [List.pairwise_cons] at hx hy
    have e : x = y := by
      rcases List.mem_cons.1 ((h x).1 (by simp)) with q | q
      · exact q
      · rcases List.mem_cons.1 ((h y).2 (by simp)) with q2 | q2
        · exact q2.symm
        · exact absurd (hx.1 y q2) (ha _ _ (hy.1 x q))
    subst e
    have i1 : ∀ z, z ∈ xs → z ≠ x := fun z hz e => ha x x (by have := hx.1 z hz; rwa [e] at this) (by have := hx.1 z hz; rwa [e] at this)
    have i2 : ∀ z, z ∈ ys → z ≠ x := fun z hz e => ha x x (by have := hy.1 z hz; rwa [e] at this) (by have := hy.1 z hz; rwa [e] at this)
    rw [sorted_ext ha hx.2 hy.2 (fun z => ⟨fun hz => (List.mem_cons.1 ((h z).1 (List.mem_cons_of_mem _ hz))).resolve_left (i1 z hz), fun hz => (List.mem_cons.1 ((h z).2 (List.mem_cons_of_mem _ hz))).resolve_left (i2 z hz)⟩)]
theorem Asc.pw {α : Type} [Inhabited α] {c : α → α → Int} {ys : List α} (h : Asc c ys) : ys.Pairwise (fun a b => ¬ c b a < 0) := List.pairwise_iff_getElem.2 fun i j hi hj hij => by
  have := h i j hij hj
  rwa [nth_eq hi, nth_eq hj] at this
section
variable {α β : Type} [DecidableEq α]
def upR (a : α) (v : β) : List (α × β) → List (α × β)
  | [] => [(a, v)]
  | p :: m => if a = p.1 then (a, v) :: m else p :: upR a v m
def gtR (a : α) : List (α × β) → Option β
  | [] => none
  | p :: m => if a = p.1 then some p.2 else gtR a m
theorem fG_shift (a : α) : ∀ (m : List (α × β)) (i : Nat), fG m a (i + 1) = (fG m a i).map fun p => (p.1 + 1, p.2)
  | [], _ => rfl
  | p :: m, i => by
    unfold fG
    split
    · rfl
    · exact fG_shift a m (i + 1)
theorem gtG_eq (a : α) : ∀ (m : List (α × β)), gtG m a = gtR a m
  | [] => rfl
  | p :: m => by
    unfold gtG fG gtR
    split
    · rfl
    · rw [fG_shift, ← gtG_eq a m]
      unfold gtG
      cases fG m a 0 <;> rfl
theorem upG_eq (a : α) (v : β) : ∀ (m : List (α × β)), upG m a v = upR a v m
  | [] => rfl
  | p :: m => by
    have ih := upG_eq a v m
    unfold upG fG upR
    by_cases q : a = p.1
    · simp [q]
    · simp only [if_neg q]
      rw [fG_shift, ← ih]
      unfold upG
      cases fG m a 0 <;> rfl
theorem gtR_upR (a : α) (v : β) (b : α) : ∀ (m : List (α × β)), gtR b (upR a v m) = if b = a then some v else gtR b m
  | [] => by
    unfold upR gtR
    split <;> rfl
  | p :: m => by
    unfold upR
    split
    · rename_i e
      unfold gtR
      by_cases q : b = a
      · simp [q]
      · rw [if_neg q, if_neg q, if_neg (by rw [← e]; exact q)]
    · rename_i e
      rw [gtR, gtR_upR a v b m]
      by_cases q : b = a
      · subst q; rw [if_neg e, if_pos rfl, if_pos rfl]
      · rw [if_neg q, if_neg q, gtR]
theorem upR_key (a : α) (v : β) : ∀ (m : List (α × β)) {k : α}, k ∈ (upR a v m).map (·.1) → k = a ∨ k ∈ m.map (·.1)
  | [], k, h => by simp [upR] at h; exact .inl h
  | p :: m, k, h => by
    unfold upR at h
    split at h
    · rcases List.mem_cons.1 h with q | q
      · exact .inl q
      · exact .inr (List.mem_cons_of_mem _ q)
    · rcases List.mem_cons.1 h with q | q
      · exact .inr (by rw [q]; simp)
      · exact (upR_key a v m q).imp_right (List.mem_cons_of_mem _)
theorem upR_nodup (a : α) (v : β) : ∀ {m : List (α × β)}, (m.map (·.1)).Nodup → ((upR a v m).map (·.1)).Nodup
  | [], _ => by simp [upR]
  | p :: m, h => by
    rw [List.map_cons, List.nodup_cons] at h
    unfold upR
    split
    · rename_i e
      rw [List.map_cons, List.nodup_cons]
      exact ⟨by rw [e]; exact h.1, h.2⟩
    · rename_i e
      rw [List.map_cons, List.nodup_cons]
      exact ⟨fun q => (upR_key a v m q).elim (fun q => e q.symm) h.1, upR_nodup a v h.2⟩
theorem gtR_mem {a : α} {v : β} : ∀ {m : List (α × β)}, gtR a m = some v → (a, v) ∈ m
  | [], h => by cases h
  | p :: m, h => by
    unfold gtR at h
    split at h
    · rename_i e
      simp only [Option.some.injEq] at h
      rw [e, ← h]; simp
    · exact List.mem_cons_of_mem _ (gtR_mem h)
theorem mem_gtR {a : α} {v : β} : ∀ {m : List (α × β)}, (m.map (·.1)).Nodup → (a, v) ∈ m → gtR a m = some v
  | [], _, h => by cases h
  | p :: m, hn, h => by
    rw [List.map_cons, List.nodup_cons] at hn
    unfold gtR
    rcases List.mem_cons.1 h with q | q
    · rw [← q]; simp
    · rw [if_neg (fun e => hn.1 (by rw [← e]; exact List.mem_map.2 ⟨_, q, rfl⟩))]
      exact mem_gtR hn.2 q
end
/-- What the editions' map holds. -/
theorem edS_at {l : List Msg} : ∀ {k : Nat}, k ≤ l.length → ∀ e, (∀ o, gtR e (edS l k) = some o → o ∈ l.take k ∧ edK o = e) ∧ (gtR e (edS l k) = none → ∀ m ∈ l.take k, edK m ≠ e)
  | 0, _, e => ⟨fun o h => (by cases h), fun _ m h => (by simp at h)⟩
  | k + 1, hk, e => by
    obtain ⟨h1, h2⟩ := edS_at (l := l) (k := k) (by omega) e
    rw [edS, upG_eq, gtR_upR, take_nth (show k < l.length by omega)]
    by_cases q : e = edK (nth l k)
    · rw [if_pos q]
      exact ⟨fun o h => by simp only [Option.some.injEq] at h; subst h; exact ⟨by simp, q.symm⟩, fun h => by cases h⟩
    · rw [if_neg q]
      refine ⟨fun o h => ⟨List.mem_append_left _ (h1 o h).1, (h1 o h).2⟩, fun h m hm => ?_⟩
      rcases List.mem_append.1 hm with hm | hm
      · exact h2 h m hm
      · rw [List.mem_singleton.1 hm]; exact fun e9 => q e9.symm
/-- No two messages of one edition differ. -/
def NoEd (l : List Msg) : Prop := ∀ a ∈ l, ∀ b ∈ l, edK a = edK b → a = b
theorem noEd_of {l : List Msg} (h : ∀ k, k < l.length → ¬ edErr l k) : NoEd l := by
  have key : ∀ k, k ≤ l.length → ∀ a ∈ l.take k, ∀ b ∈ l.take k, edK a = edK b → a = b := by
    intro k
    induction k with
    | zero => intro _ a ha; simp at ha
    | succ k ih =>
      intro hk
      have one : ∀ a ∈ l.take k, edK a = edK (nth l k) → a = nth l k := fun a ha e => by
        obtain ⟨h1, h2⟩ := edS_at (l := l) (k := k) (by omega) (edK (nth l k))
        cases hg : gtR (edK (nth l k)) (edS l k) with
        | none => exact absurd e (h2 hg a ha)
        | some o =>
          obtain ⟨h3, h4⟩ := h1 o hg
          have h5 : o = nth l k := Classical.byContradiction fun q => h k (by omega) ⟨o, by rw [gtG_eq]; exact hg, q⟩
          rw [← h5]
          exact ih (by omega) a ha o h3 (by rw [e, h4])
      intro a ha b hb e
      rw [take_nth (show k < l.length by omega)] at ha hb
      rcases List.mem_append.1 ha with ha | ha <;> rcases List.mem_append.1 hb with hb | hb
      · exact ih (by omega) a ha b hb e
      · rw [List.mem_singleton.1 hb] at e ⊢; exact one a ha e
      · rw [List.mem_singleton.1 ha] at e ⊢; exact (one b hb e.symm).symm
      · rw [List.mem_singleton.1 ha, List.mem_singleton.1 hb]
  have := key l.length (Nat.le_refl _)
  rw [List.take_length] at this
  exact this
theorem not_edErr {l : List Msg} (h : NoEd l) {k : Nat} (hk : k < l.length) : ¬ edErr l k := fun ⟨o, hg, hn⟩ => by
  rw [gtG_eq] at hg
  obtain ⟨h1, h2⟩ := (edS_at (l := l) (k := k) (by omega) _).1 o hg
  exact hn (h o (List.mem_of_mem_take h1) _ (nth_mem hk) h2)
/-- What the map of the latest revisions holds. -/
theorem laS_at {l : List Msg} : ∀ {k : Nat}, k ≤ l.length → ((laS l k).map (·.1)).Nodup ∧ ∀ e, (∀ o, gtR e (laS l k) = some o → o ∈ l.take k ∧ keK o = e ∧ ∀ m ∈ l.take k, keK m = e → m.r ≤ o.r) ∧ (gtR e (laS l k) = none → ∀ m ∈ l.take k, keK m ≠ e)
  | 0, _ => ⟨by simp [laS], fun e => ⟨fun o h => (by cases h), fun _ m h => (by simp at h)⟩⟩
  | k + 1, hk => by
    obtain ⟨h0, h12⟩ := laS_at (l := l) (k := k) (by omega)
    rw [take_nth (show k < l.length by omega)]
    by_cases hq : laOld (laS l k) (nth l k) = true
    · rw [laS, if_pos hq, upG_eq]
      refine ⟨upR_nodup _ _ h0, fun e => ?_⟩
      obtain ⟨h1, h2⟩ := h12 e
      rw [gtR_upR]
      by_cases q : e = keK (nth l k)
      · rw [if_pos q]
        refine ⟨fun o h => ?_, fun h => by cases h⟩
        simp only [Option.some.injEq] at h
        subst h
        refine ⟨by simp, q.symm, fun m hm hk9 => ?_⟩
        rcases List.mem_append.1 hm with hm | hm
        · unfold laOld at hq
          rw [gtG_eq, ← q] at hq
          cases hg : gtR e (laS l k) with
          | none => exact absurd hk9 (h2 hg m hm)
          | some o =>
            rw [hg] at hq
            have h3 := (h1 o hg).2.2 m hm hk9
            simp only [decide_eq_true_eq] at hq
            omega
        · rw [List.mem_singleton.1 hm]; exact Int.le_refl _
      · rw [if_neg q]
        refine ⟨fun o h => ⟨List.mem_append_left _ (h1 o h).1, (h1 o h).2.1, fun m hm hk9 => ?_⟩, fun h m hm => ?_⟩
        · rcases List.mem_append.1 hm with hm | hm
          · exact (h1 o h).2.2 m hm hk9
          · rw [List.mem_singleton.1 hm] at hk9; exact absurd hk9.symm q
        · rcases List.mem_append.1 hm with hm | hm
          · exact h2 h m hm
          · rw [List.mem_singleton.1 hm]; exact fun e9 => q e9.symm
    · rw [laS, if_neg hq]
      refine ⟨h0, fun e => ?_⟩
      obtain ⟨h1, h2⟩ := h12 e
      have old : ∃ v, gtR (keK (nth l k)) (laS l k) = some v ∧ (nth l k).r ≤ v.r := by
        unfold laOld at hq
        rw [gtG_eq] at hq
        cases hg : gtR (keK (nth l k)) (laS l k) with
        | none => rw [hg] at hq; simp at hq
        | some v => rw [hg] at hq; simp only [decide_eq_true_eq] at hq; exact ⟨v, rfl, by omega⟩
      obtain ⟨v, hv, hr⟩ := old
      refine ⟨fun o h => ⟨List.mem_append_left _ (h1 o h).1, (h1 o h).2.1, fun m hm hk9 => ?_⟩, fun h m hm => ?_⟩
      · rcases List.mem_append.1 hm with hm | hm
        · exact (h1 o h).2.2 m hm hk9
        · rw [List.mem_singleton.1 hm] at hk9 ⊢
          rw [hk9, h] at hv
          simp only [Option.some.injEq] at hv
          subst hv; exact hr
      · rcases List.mem_append.1 hm with hm | hm
        · exact h2 h m hm
        · rw [List.mem_singleton.1 hm]
          intro e9
          rw [e9, h] at hv
          cases hv
/-- A fact: the latest revision of its message, and not withdrawn. -/
def LastIn (l : List Msg) (x : Msg) : Prop := x ∈ l ∧ x.k ≠ 7 ∧ ∀ m ∈ l, m.c = x.c → m.n = x.n → m.r ≤ x.r
abbrev FLt (a b : Msg) : Prop := cmpF a b < 0
theorem FLt.asym (a b : Msg) (h : FLt a b) : ¬ FLt b a := by
  unfold FLt at *
  rw [cmpF_lt] at *
  omega
theorem cmpF_ne {a b : Msg} (h : ¬ cmpF b a < 0) (hn : keK a ≠ keK b) : cmpF a b < 0 := by
  have : ¬ (a.c = b.c ∧ a.n = b.n) := fun q => hn (by unfold keK; rw [q.1, q.2])
  rw [cmpF_lt] at *
  omega
theorem RdR.spec {l out : List Msg} (h : RdR l out 0) : rdE l = 0 ∧ NoEd l ∧ out.Pairwise FLt ∧ ∀ x, x ∈ out ↔ LastIn l x := by
  rcases h with ⟨h1, h2, _⟩ | ⟨_, h2, _⟩ | ⟨h0, _, hne, hp, ha⟩
  · omega
  · omega
  · have hE := noEd_of hne
    obtain ⟨hn, hl⟩ := laS_at (l := l) (k := l.length) (Nat.le_refl _)
    rw [List.take_length] at hl
    have keyp : ∀ p ∈ laS l l.length, p.1 = keK p.2 := fun p hp => ((hl p.1).1 p.2 (mem_gtR hn hp)).2.1.symm
    refine ⟨h0, hE, ?_, fun x => ?_⟩
    · have h3 : out.Pairwise (fun a b => keK a ≠ keK b) := by
        refine hp.symm.pairwise ?_ (fun {a b} q => fun e => q e.symm)
        refine List.Pairwise.filter _ ?_
        rw [List.pairwise_map]
        have h4 := hn
        unfold List.Nodup at h4
        rw [List.pairwise_map] at h4
        exact h4.imp_of_mem (fun ha hb q e => q (by rw [keyp _ ha, keyp _ hb, e]))
      exact (ha.pw.and h3).imp (fun q => cmpF_ne q.1 q.2)
    · rw [hp.mem_iff, List.mem_filter, List.mem_map]
      constructor
      · rintro ⟨⟨p, hp9, rfl⟩, hk⟩
        have h5 := (hl p.1).1 p.2 (mem_gtR hn hp9)
        exact ⟨h5.1, by simpa using hk, fun m hm hc hn9 => h5.2.2 m hm (by rw [keyp p hp9]; unfold keK; rw [hc, hn9])⟩
      · rintro ⟨hx, hk, hr⟩
        refine ⟨?_, by simpa using hk⟩
        cases hg : gtR (keK x) (laS l l.length) with
        | none => exact absurd rfl ((hl (keK x)).2 hg x hx)
        | some o =>
          obtain ⟨h6, h7, h8⟩ := (hl (keK x)).1 o hg
          have hc : o.c = x.c := congrArg Prod.fst h7
          have hn9 : o.n = x.n := congrArg Prod.snd h7
          have h9 := h8 x hx rfl
          have h10 := hr o h6 hc hn9
          have e : o = x := hE o h6 x hx (by unfold edK; rw [hc, hn9, show o.r = x.r by omega])
          exact ⟨_, gtR_mem hg, e⟩
theorem RdR.err {l out : List Msg} {e : Int} (h : RdR l out e) : (rdE l ≠ 0 ∧ e = rdE l ∧ out = []) ∨ (rdE l = 0 ∧ ¬ NoEd l ∧ e = 6 ∧ out = []) ∨ (rdE l = 0 ∧ NoEd l ∧ e = 0) := by
  rcases h with ⟨h1, h2, h3⟩ | ⟨h0, h2, h3, k, hk, he⟩ | ⟨h0, h2, hne, _⟩
  · exact .inl ⟨h1, h2, h3⟩
  · exact .inr (.inl ⟨h0, fun q => not_edErr q hk he, h2, h3⟩)
  · exact .inr (.inr ⟨h0, noEd_of hne, h2⟩)
end Go.Proofs.YtclinbbghnebaaaGreat
