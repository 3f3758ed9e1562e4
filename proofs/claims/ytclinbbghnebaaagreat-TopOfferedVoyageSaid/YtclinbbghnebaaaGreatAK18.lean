/-
  Part 18 of the proof: contracts and plain laws. Conditions: none.
-/
import Derived.Test.YtclinbbghnebaaaGreatAK17
namespace Go.Proofs.YtclinbbghnebaaaGreat
open Go Go.RowKit Go.Proofs.Tryz
set_option maxRecDepth 10000
structure W5 where
  a : Int
  b : Int
  c : Int
  d : Int
  e : Int
instance : Inhabited W5 := ⟨⟨default, default, default, default, default⟩⟩
def okW5 (u : W5) : Prop := (0 ≤ u.a ∧ u.a ≤ 255) ∧ (0 ≤ u.b ∧ u.b ≤ 255) ∧ (0 ≤ u.c ∧ u.c ≤ 255) ∧ (0 ≤ u.d ∧ u.d ≤ 255) ∧ (0 ≤ u.e ∧ u.e ≤ 255)
def encW5 (x : W5) : List Value := [.int .u8 x.a, .int .u8 x.b, .int .u8 x.c, .int .u8 x.d, .int .u8 x.e]
theorem bestE_ok {l : List Off} {h : Hul} (h1 : l.length ≤ 12) (h2 : ∀ x ∈ l, okOff x = true) (h3 : okHul h) : bestE l h = 0 := by
  unfold bestE
  rw [if_neg (by omega), if_neg, if_neg (fun q => q h3)]
  intro q
  obtain ⟨x, hx, e⟩ := List.any_eq_true.1 q
  simp [h2 x hx] at e
theorem bst_gn {l : List Off} {h : Hul} : 0 ≤ (bestP l h).g ∧ ((bestP l h).s.length = 0 → (bestP l h).g = 0) ∧ Fea l h (bestP l h).s ∧ gnF l h (bestP l h).s = (bestP l h).g := by
  obtain ⟨⟨h1, h2⟩, h3⟩ := bestP_best l h
  refine ⟨?_, fun e => ?_, h1, h2.symm⟩
  · have := h3 ⟨[], 0⟩ ⟨trivial, rfl⟩
    have h4 : ¬ bt ⟨[], 0⟩ (bestP l h) = true := by rw [this]; exact Bool.false_ne_true
    rw [bt_iff] at h4
    simp only [List.length_nil] at h4
    omega
  · rw [h2, List.eq_nil_of_length_eq_zero e]; rfl

/-- An offer by small numbers. -/
def offV (u : W5) : Off := ⟨200 + 2 * u.a, 200 + u.b, 5 * u.c, 5 * u.c + u.d, 20 * u.e⟩
theorem offV_ok {u : W5} (h : okW5 u) : okOff (offV u) = true ∧ ((200 ≤ (offV u).f ∧ (offV u).f ≤ 710) ∧ (200 ≤ (offV u).t ∧ (offV u).t ≤ 455) ∧ (0 ≤ (offV u).b ∧ (offV u).b ≤ 1275) ∧ ((offV u).b ≤ (offV u).e ∧ (offV u).e ≤ 1530) ∧ (0 ≤ (offV u).p ∧ (offV u).p ≤ 5100)) := by
  unfold okW5 at h
  unfold okOff offV
  rw [decide_eq_true_eq]
  dsimp only
  omega
def spd (x : Int) : Int := nth [10, 12, 15, 20, 30] (x % 5).toNat
def spq (x : Int) : Int := 60 / spd x
theorem spd_all {x : Int} (_h : 0 ≤ x) : (spd x = 10 ∧ spq x = 6) ∨ (spd x = 12 ∧ spq x = 5) ∨ (spd x = 15 ∧ spq x = 4) ∨ (spd x = 20 ∧ spq x = 3) ∨ (spd x = 30 ∧ spq x = 2) := by
  have h1 : (x % 5).toNat = 0 ∨ (x % 5).toNat = 1 ∨ (x % 5).toNat = 2 ∨ (x % 5).toNat = 3 ∨ (x % 5).toNat = 4 := by omega
  unfold spq spd
  rcases h1 with e | e | e | e | e <;> rw [e] <;> simp [nth]
/-- The way to a place at a speed that divides the hour. -/
theorem spd_tak {x a : Int} (h : 0 ≤ x) : (60 * a + spd x - 1) / spd x = a * spq x := by
  rcases spd_all h with ⟨e1, e2⟩ | ⟨e1, e2⟩ | ⟨e1, e2⟩ | ⟨e1, e2⟩ | ⟨e1, e2⟩ <;> rw [e1, e2] <;> omega
theorem spq_rng {x : Int} (h : 0 ≤ x) : (2 ≤ spq x ∧ spq x ≤ 6) ∧ (10 ≤ spd x ∧ spd x ≤ 30) := by
  rcases spd_all h with ⟨e1, e2⟩ | ⟨e1, e2⟩ | ⟨e1, e2⟩ | ⟨e1, e2⟩ | ⟨e1, e2⟩ <;> rw [e1, e2] <;> omega
theorem spq_mul {x a : Int} (h : 0 ≤ x) (ha : 0 ≤ a ∧ a ≤ 1000) : 0 ≤ a * spq x ∧ a * spq x ≤ 6000 := by
  rcases spd_all h with ⟨_, e2⟩ | ⟨_, e2⟩ | ⟨_, e2⟩ | ⟨_, e2⟩ | ⟨_, e2⟩ <;> rw [e2] <;> omega
theorem farH_c {h : Hul} {o : Off} (hp : 200 ≤ h.p ∧ h.p ≤ 710) (ho : 200 ≤ o.f ∧ o.f ≤ 710) (hc : 0 ≤ h.c ∧ h.c ≤ 40) : (0 ≤ farH h o ∧ farH h o ≤ 510) ∧ 0 ≤ farH h o * h.c ∧ farH h o * h.c ≤ 20400 := by
  have h1 : 0 ≤ farH h o ∧ farH h o ≤ 510 := by unfold farH; omega
  have h2 := Int.mul_nonneg h1.1 hc.1
  have h3 := Int.mul_le_mul h1.2 hc.2 hc.1 (by omega)
  exact ⟨h1, h2, by omega⟩
theorem best1 (o : Off) (h : Hul) : bestP [o] h = if h.m + farH h o * h.s ≤ o.b ∧ 0 < o.p - farH h o * h.c then ⟨[0], o.p - farH h o * h.c⟩ else ⟨[], 0⟩ := by
  have hb := bestP_best [o] h
  have hF0 : Fea [o] h [0] ↔ h.m + farH h o * h.s ≤ o.b := by
    simp [Fea, inT, nth]
  have hg0 : gnF [o] h [0] = o.p - farH h o * h.c := by simp [gnF, nth]
  have hall : ∀ s, Fea [o] h s → s = [] ∨ s = [0] := fun s hs => by
    cases s with
    | nil => exact .inl rfl
    | cons i r =>
      obtain ⟨h1, _, h3, h4⟩ := hs
      have e : i = 0 := by simp at h1; omega
      subst e
      cases r with
      | nil => exact .inr rfl
      | cons j r =>
        have h5 := h3 j (by simp)
        have h6 := h4.1
        have e2 : j = 0 := by simp at h6; omega
        subst e2
        exact (prc_irr h5).elim
  refine IsB.uniq hb ?_
  split
  · rename_i hc
    refine ⟨⟨hF0.2 hc.1, hg0.symm⟩, fun q hq => ?_⟩
    have : ¬ bt q ⟨[0], o.p - farH h o * h.c⟩ = true := by
      rw [bt_iff]
      rcases hall _ hq.1 with e | e
      · have h7 := hq.2
        rw [e, gnF] at h7
        dsimp only
        omega
      · have h7 := hq.2
        rw [e, hg0] at h7
        have h8 := (@cmpL_zero [0] [0]).2 rfl
        rw [e, h7]
        dsimp only
        omega
    simpa using this
  · rename_i hc
    refine ⟨⟨trivial, rfl⟩, fun q hq => ?_⟩
    have : ¬ bt q ⟨[], 0⟩ = true := by
      rw [bt_iff]
      rcases hall _ hq.1 with e | e
      · have h7 := hq.2
        rw [e, gnF] at h7
        have h8 := (@cmpL_zero [] []).2 rfl
        rw [e, h7]
        dsimp only
        omega
      · have h7 := hq.2
        have h8 := hF0.1 (e ▸ hq.1)
        rw [e, hg0] at h7
        rw [e]
        simp only [List.length_cons, List.length_nil]
        omega
    simpa using this
/-- A single offer that can be carried gains no more than the best list. -/
theorem bst_one {l : List Off} {h : Hul} {j : Nat} (hj : j < l.length) (h1 : h.m + farH h (nth l j) * h.s ≤ (nth l j).b) : (nth l j).p - farH h (nth l j) * h.c ≤ (bestP l h).g := by
  have hf : Fea l h [(j : Int)] := by
    refine ⟨by omega, ?_, fun x hx => by simp at hx, trivial⟩
    unfold inT; simpa using h1
  have hg : gnF l h [(j : Int)] = (nth l j).p - farH h (nth l j) * h.c := by simp [gnF]
  have := (bestP_best l h).2 ⟨[(j : Int)], gnF l h [(j : Int)]⟩ ⟨hf, rfl⟩
  have h4 : ¬ bt ⟨[(j : Int)], gnF l h [(j : Int)]⟩ (bestP l h) = true := by rw [this]; exact Bool.false_ne_true
  rw [bt_iff, hg] at h4
  dsimp only at h4
  omega
theorem fea_at {l : List Off} {h : Hul} {s : List Int} {k : Nat} (hk : k < s.length) (hf : Fea l h (s.drop k)) : (0 ≤ nth s k ∧ nth s k < (l.length : Int)) ∧ h.m + farH h (nth l (nth s k).toNat) * h.s ≤ (nth l (nth s k).toNat).b ∧ Fea l (aftH h (nth l (nth s k).toNat)) (s.drop (k + 1)) ∧ gnF l h (s.drop k) = (nth l (nth s k).toNat).p - farH h (nth l (nth s k).toNat) * h.c + gnF l (aftH h (nth l (nth s k).toNat)) (s.drop (k + 1)) := by
  rw [drop_nth hk] at hf ⊢
  exact ⟨hf.1, hf.2.1, hf.2.2.2, rfl⟩
theorem gnF_end {l : List Off} {h : Hul} {s : List Int} {k : Nat} (hk : s.length ≤ k) : gnF l h (s.drop k) = 0 := by
  rw [List.drop_eq_nil_of_le hk]; rfl
theorem fea_pair {l : List Off} : ∀ {s : List Int} {h : Hul}, Fea l h s → s.Pairwise (prc l) ∧ ∀ x ∈ s, 0 ≤ x ∧ x < (l.length : Int)
  | [], _, _ => ⟨List.Pairwise.nil, fun x hx => by simp at hx⟩
  | i :: r, h, ⟨h1, _, h3, h4⟩ => by
    obtain ⟨p1, p2⟩ := fea_pair h4
    refine ⟨List.pairwise_cons.2 ⟨fun j hj => ?_, p1⟩, fun x hx => ?_⟩
    · cases r with
      | nil => simp at hj
      | cons a r =>
        have h5 := h3 a (by simp)
        rcases List.mem_cons.1 hj with rfl | q
        · exact h5
        · exact prc_trans h5 ((List.pairwise_cons.1 p1).1 j q)
    · rcases List.mem_cons.1 hx with rfl | q
      · exact h1
      · exact p2 x q
theorem nodup_leI : ∀ {xs ys : List Int}, xs.Nodup → (∀ x ∈ xs, x ∈ ys) → xs.length ≤ ys.length
  | [], _, _, _ => Nat.zero_le _
  | x :: xs, ys, hn, h => by
    obtain ⟨s, t, rfl⟩ := List.append_of_mem (h x (by simp))
    rw [List.nodup_cons] at hn
    have := nodup_leI (xs := xs) (ys := s ++ t) hn.2 fun z hz => by
      have h1 := h z (List.mem_cons_of_mem _ hz)
      rw [List.mem_append, List.mem_cons] at h1
      rw [List.mem_append]
      rcases h1 with q | q | q
      · exact .inl q
      · rw [q] at hz; exact absurd hz hn.1
      · exact .inr q
    rw [List.length_append] at this
    rw [List.length_append, List.length_cons, List.length_cons]
    omega
/-- The best list has no more members than there are offers. -/
theorem bst_few {l : List Off} {h : Hul} : (bestP l h).s.length ≤ l.length := by
  obtain ⟨p1, p2⟩ := fea_pair (bst_gn (l := l) (h := h)).2.2.1
  have h1 : (bestP l h).s.Nodup := p1.imp fun {a b} q e => by subst e; exact prc_irr q
  have := nodup_leI (ys := iotaL l.length) h1 fun x hx => by
    have h2 := p2 x hx
    have := nth_mem (xs := iotaL l.length) (i := x.toNat) (by rw [iotaL_len]; omega)
    rwa [iotaL_nth (by omega), show ((x.toNat : Nat) : Int) = x by omega] at this
  rwa [iotaL_len] at this
/-- The greatest gain with one offer alone, so far. -/
def OneOk (xs : List W5) (h : Hul) (k : Nat) (on : Int) : Prop := 0 ≤ on ∧ (on = 0 ∨ ∃ j, j < k ∧ h.m + farH h (offV (nth xs j)) * h.s ≤ (offV (nth xs j)).b ∧ on = (offV (nth xs j)).p - farH h (offV (nth xs j)) * h.c)
theorem OneOk.zero (xs : List W5) (h : Hul) : OneOk xs h 0 0 := ⟨Int.le_refl _, .inl rfl⟩
theorem OneOk.mono {xs : List W5} {h : Hul} {k : Nat} {on : Int} (q : OneOk xs h k on) : OneOk xs h (k + 1) on :=
  ⟨q.1, q.2.imp id fun ⟨j, h1, h2⟩ => ⟨j, by omega, h2⟩⟩
theorem OneOk.max {xs : List W5} {h : Hul} {k : Nat} {on g : Int} (q : OneOk xs h k on) (h1 : h.m + farH h (offV (nth xs k)) * h.s ≤ (offV (nth xs k)).b) (h2 : g = (offV (nth xs k)).p - farH h (offV (nth xs k)) * h.c) : OneOk xs h (k + 1) (Max.max on g) := by
  obtain ⟨q1, q2⟩ := q.mono
  by_cases c : on ≤ g
  · exact ⟨by omega, .inr ⟨k, by omega, h1, by omega⟩⟩
  · rw [show Max.max on g = on by omega]
    exact ⟨q1, q2⟩
theorem nth_offs {xs : List W5} {k j : Nat} (h : j < k) (hk : k ≤ xs.length) : nth ((xs.take k).map offV) j = offV (nth xs j) := by
  rw [nth_eq (by rw [List.length_map, List.length_take]; omega), nth_eq (show j < xs.length by omega)]
  simp
theorem OneOk.fin {xs : List W5} {h : Hul} {k : Nat} {on : Int} (q : OneOk xs h k on) (hk : k ≤ xs.length) : on ≤ (bestP ((xs.take k).map offV) h).g := by
  rcases q.2 with e | ⟨j, h1, h2, h3⟩
  · rw [e]; exact bst_gn.1
  · have := bst_one (l := (xs.take k).map offV) (h := h) (j := j) (by rw [List.length_map, List.length_take]; omega) (by rw [nth_offs h1 hk]; exact h2)
    rw [nth_offs h1 hk] at this
    omega
theorem far0 {h : Hul} {x : Off} (e : x.f = h.p) : farH h x = 0 := by unfold farH; omega

def avK (m p f s : Int) : Voy := ⟨⟨m, m⟩, [⟨p, f, ⟨s, s⟩, ⟨0, 0⟩⟩], 80, 9⟩
theorem arr1 {x m p f : Int} (hx : 0 ≤ x) (hm : 0 ≤ m ∧ m ≤ 100000) (hp : 0 ≤ p ∧ p ≤ 100000) (hf : 0 ≤ f ∧ f ≤ 100000) (hn : f ≠ p) : ArrE (avK m p f (spd x)) f = 0 ∧ ArrB (avK m p f (spd x)) f = ⟨m + max (p - f) (f - p) * spq x, m + max (p - f) (f - p) * spq x⟩ := by
  have hs := (spq_rng hx).2
  have h1 : okVoy (avK m p f (spd x)) = true := by
    unfold okVoy
    rw [Bool.and_eq_true]
    constructor
    · unfold okVoy0 avK
      rw [decide_eq_true_eq]
      dsimp only
      rw [List.length_singleton]
      omega
    · show (okRun p (sgn p f) ⟨p, f, ⟨spd x, spd x⟩, ⟨0, 0⟩⟩ && true) = true
      rw [Bool.and_true]
      unfold okRun
      rw [decide_eq_true_eq]
      dsimp only
      exact ⟨⟨hp, hf⟩, rfl, hn, rfl, ⟨Int.le_refl _, by omega, by omega⟩, Int.le_refl _, by omega, by omega⟩
  have h2 : onWay (avK m p f (spd x)) [f] = true := by
    unfold onWay
    rw [decide_eq_true_eq]
    intro n hn
    rw [List.mem_singleton.1 hn]
    show min p f ≤ f ∧ f ≤ max p f
    omega
  have h3 : arr (avK m p f (spd x)) f = ⟨m + max (p - f) (f - p) * spq x, m + max (p - f) (f - p) * spq x⟩ := by
    have w : wayTo ⟨p, f, ⟨spd x, spd x⟩, ⟨0, 0⟩⟩ f = f - p := by
      unfold wayTo
      dsimp only
      rw [if_neg (by omega)]
    have t : tak (f - p) (spd x) = max (p - f) (f - p) * spq x := by
      unfold tak
      rw [spd_tak hx, show max (f - p) (-(f - p)) = max (p - f) (f - p) by omega]
    show arrGo f [⟨p, f, ⟨spd x, spd x⟩, ⟨0, 0⟩⟩] ⟨m, m⟩ = _
    simp only [arrGo, w, t]
    rw [if_neg (fun e => hn e.symm), if_pos (by omega)]
    simp
  unfold ArrE ArrB
  rw [if_pos h1, if_pos h2, if_pos h1, if_pos h2]
  exact ⟨rfl, h3⟩
theorem offs_rng {xs : List W5} {k : Nat} (h : ∀ x ∈ xs, okW5 x) {o : Off} (ho : o ∈ (xs.take k).map offV) : okOff o = true ∧ ((200 ≤ o.f ∧ o.f ≤ 710) ∧ (200 ≤ o.t ∧ o.t ≤ 455) ∧ (0 ≤ o.b ∧ o.b ≤ 1275) ∧ (o.b ≤ o.e ∧ o.e ≤ 1530) ∧ (0 ≤ o.p ∧ o.p ≤ 5100)) := by
  obtain ⟨u, hu, rfl⟩ := List.mem_map.1 ho
  exact offV_ok (h u (List.mem_of_mem_take hu))
theorem spd_at {x : Int} (_h : 0 ≤ x) : ([.int .i64 10, .int .i64 12, .int .i64 15, .int .i64 20, .int .i64 30] : List Value)[(x % 5).toNat * 1]? = some (.int .i64 (spd x)) := by
  have h1 : (x % 5).toNat = 0 ∨ (x % 5).toNat = 1 ∨ (x % 5).toNat = 2 ∨ (x % 5).toNat = 3 ∨ (x % 5).toNat = 4 := by omega
  unfold spd
  rcases h1 with e | e | e | e | e <;> rw [e] <;> rfl

set_option maxHeartbeats 4000000 in
theorem TopOfferedVoyage_c (xs : List W5) (ax : Option Addr) (bx ox cx : Nat) (x0 x1 x2 x3 : Int) (w0 : World) (hx : Sl encW5 5 w0 ax bx ox xs) (hxl : xs.length ≤ 9223372036854775807) (hxs : ∀ x ∈ xs, okW5 x) (hy : (0 ≤ x0 ∧ x0 ≤ 255) ∧ (0 ≤ x1 ∧ x1 ≤ 255) ∧ (0 ≤ x2 ∧ x2 ≤ 255) ∧ (0 ≤ x3 ∧ x3 ≤ 255)) :
    CallsV Tryz.prog 4 [.slice ax xs.length cx, .agg #[.int .u8 x0, .int .u8 x1, .int .u8 x2, .int .u8 x3]] w0 (fun v w' => v = .bool true ∧ Ext w0 w') := by
 have hx0 := hy.1.1
 have hsq := spq_rng hx0
 have hhu : okHul (⟨(300 + x1), x2, (spq x0), (x3 % 40)⟩ : Hul) := by unfold okHul; dsimp only; omega
 refine f_n func4 ?_
 refine go ?_
 refine x_b fun bk2 w3 ebk2 sbk2 B4 u5 => ?_
 refine go ?_
 refine q_p (fun g34 => ?_) fun g34 => ?_
 ·
  refine go ?_
  refine x_c func15 rfl rfl (moorPays_c _) ?_
  rintro _ w11 ⟨rfl, u12⟩ zu12
  refine go ?_
  refine x_c func16 rfl rfl (moorStops_c _) ?_
  rintro _ w16 ⟨rfl, u17⟩ zu17
  refine go ?_
  refine f_1 results4 ?_
  exact ⟨rfl, u_d⟩
 refine go ?_
 refine t_build (ps := [(0, .int .i64 10), (1, .int .i64 12), (2, .int .i64 15), (3, .int .i64 20), (4, .int .i64 30)]) (v := .agg #[.int .i64 10, .int .i64 12, .int .i64 15, .int .i64 20, .int .i64 30]) rfl rfl ⟨rfl, rfl⟩ (fun w => by kernel_rfl) (t_indexArr (j := 0) (0) underlying64 sizeOf5 rfl rfl rfl rfl rfl (by decide) rfl ?_)
 refine go ?_
 refine t_conv underlying5 underlying3 rfl rfl rfl (IntWalk.i64_in _ (by omega)) (t_rem rfl rfl rfl rfl (by omega) (by omega) (t_idxv (x0 % 5).toNat underlying65 isAgg3 sizeOf3 rfl rfl rfl rfl (by omega) (by omega) (v := .int .i64 (spd x0)) (spd_at hx0) ?_))
 refine go ?_
 refine c_drawnM follows (fun _ => False) (OTl [0, 2, 4, 6, 8, 10, 12, 14, 16, 18, 20, 22, 24, 26]) (by kernel_rfl) fun w22 u23 => ?_
 have zu23 := u23.size
 refine y_indexArr (j := 1) (1) underlying64 sizeOf5 rfl rfl rfl rfl rfl (by decide) rfl ?_
 refine go ?_
 refine y_conv underlying5 underlying3 rfl rfl rfl (IntWalk.i64_in _ (by omega)) ?_
 refine go ?_
 refine y_indexArr (j := 2) (2) underlying64 sizeOf5 rfl rfl rfl rfl rfl (by decide) rfl ?_
 refine go ?_
 refine y_conv underlying5 underlying3 rfl rfl rfl (IntWalk.i64_in _ (by omega)) ?_
 refine y_indexArr (j := 3) (3) underlying64 sizeOf5 rfl rfl rfl rfl rfl (by decide) rfl ?_
 refine go ?_
 refine y_conv underlying5 underlying3 rfl rfl rfl (IntWalk.i64_in _ (by omega)) (y_rem rfl rfl rfl rfl (by omega) (by omega) ?_)
 refine go ?_
 refine x_l fun bk26 w27 ebk26 sbk26 B28 u29 => ?_
 refine go ?_
 refine x_l5 (fun i => bk26 ≤ i) [0, 5, 6, 7, 8] (fun (k : Nat) (ao : Option Addr) (gw : Nat) (co : Nat) (on : Int) => [(9, .slice ao (((xs.take k).map offV).length) co), (10, .int .i64 on), (11, .int .i64 (k : Int))]) (fun k ao gw co on w => (k ≤ xs.length) ∧ (Acc encOff 5 68 bk26 w ao gw co ((xs.take k).map offV)) ∧ (OneOk xs (⟨(300 + x1), x2, (spq x0), (x3 % 40)⟩ : Hul) k on)) (fun k ao gw co on => xs.length - k) 0 (some ⟨bk26, 0, none⟩) bk26 0 0 ⟨(Nat.zero_le _), (Acc.ofBlk (xs := ([] : List Off)) encOff 5 (fun _ => rfl) B28 (Nat.le_refl _) (by decide)), (OneOk.zero _ _)⟩ ?_
 rintro k ao gw co on w34 ⟨hk, hout, hone⟩ u35 zu35 K33 hK33
 have lt_gw := hout.lt
 have hol : ((xs.take k).map offV).length = k := by rw [List.length_map, List.length_take]; omega
 refine go ?_
 refine q_p (fun g60 => ?_) fun g60 => ?_
 ·
  have hx9 := hxs _ (nth_mem (xs := xs) (i := k) (by omega))
  have ho9 := (offV_ok hx9).2
  have hok9 := (offV_ok hx9).1
  unfold okW5 at hx9
  have hfc9 : (0 ≤ (farH (⟨(300 + x1), x2, (spq x0), (x3 % 40)⟩ : Hul) (offV (nth xs k))) ∧ (farH (⟨(300 + x1), x2, (spq x0), (x3 % 40)⟩ : Hul) (offV (nth xs k))) ≤ 510) ∧ 0 ≤ (farH (⟨(300 + x1), x2, (spq x0), (x3 % 40)⟩ : Hul) (offV (nth xs k))) * (x3 % 40) ∧ (farH (⟨(300 + x1), x2, (spq x0), (x3 % 40)⟩ : Hul) (offV (nth xs k))) * (x3 % 40) ≤ 20400 := farH_c (h := (⟨(300 + x1), x2, (spq x0), (x3 % 40)⟩ : Hul)) (o := (offV (nth xs k))) (by dsimp only; omega) ho9.1 (by dsimp only; omega)
  have hfm9 := spq_mul (x := x0) hx0 (a := (farH (⟨(300 + x1), x2, (spq x0), (x3 % 40)⟩ : Hul) (offV (nth xs k)))) (by omega)
  have hst9 : (xs.take (k + 1)).map offV = ((xs.take k).map offV) ++ [(offV (nth xs k))] := by rw [take_nth (by omega), List.map_append]; rfl
  refine go ?_
  refine g_i k (hx.keep (((((Upd.refl (fun _ => False) w0).nx u5).nx u23).nx u29).next u35 (fun i hi (h : bk26 ≤ i) => show False by first | omega | assumption)) (fun _ h => h)) (fun _ => ?_)
  refine go ?_
  refine x_n fun bk42 w43 ebk42 sbk42 B44 u45 => ?_
  refine x_s fun w47 sw47 B49 u48 => ?_
  refine go ?_
  refine t_indexArr (j := 0) (0) underlying22 sizeOf5 rfl rfl rfl rfl rfl (by decide) rfl ?_
  refine go ?_
  refine t_conv underlying5 underlying3 rfl rfl rfl (IntWalk.i64_in _ (by omega)) ?_
  iterate 2 refine st1 ?_
  refine t_same 71 (v := .int .i64 ((offV (nth xs k)).f)) rfl rfl ?_
  refine go ?_
  refine t_indexArr (j := 1) (1) underlying22 sizeOf5 rfl rfl rfl rfl rfl (by decide) rfl ?_
  refine go ?_
  refine t_conv underlying5 underlying3 rfl rfl rfl (IntWalk.i64_in _ (by omega)) ?_
  refine st1 ?_
  refine t_same 76 (v := .int .i64 ((offV (nth xs k)).t)) rfl rfl (t_indexArr (j := 2) (2) underlying22 sizeOf5 rfl rfl rfl rfl rfl (by decide) rfl ?_)
  refine go ?_
  refine t_conv underlying5 underlying3 rfl rfl rfl (IntWalk.i64_in _ (by omega)) ?_
  refine st1 ?_
  refine t_same 80 (v := .int .i64 ((offV (nth xs k)).b)) rfl rfl (t_indexArr (j := 2) (2) underlying22 sizeOf5 rfl rfl rfl rfl rfl (by decide) rfl ?_)
  refine go ?_
  refine t_conv underlying5 underlying3 rfl rfl rfl (IntWalk.i64_in _ (by omega)) ?_
  refine go ?_
  refine t_indexArr (j := 3) (3) underlying22 sizeOf5 rfl rfl rfl rfl rfl (by decide) rfl ?_
  refine go ?_
  refine t_conv underlying5 underlying3 rfl rfl rfl (IntWalk.i64_in _ (by omega)) ?_
  refine st1 ?_
  refine t_same 88 (v := .int .i64 ((offV (nth xs k)).e)) rfl rfl (t_indexArr (j := 4) (4) underlying22 sizeOf5 rfl rfl rfl rfl rfl (by decide) rfl ?_)
  refine go ?_
  refine t_conv underlying5 underlying3 rfl rfl rfl (IntWalk.i64_in _ (by omega)) ?_
  refine st1 ?_
  refine t_same 92 (v := .int .i64 ((offV (nth xs k)).p)) rfl rfl ?_
  refine go ?_
  refine x_n fun bk53 w54 ebk53 sbk53 B55 u56 => ?_
  refine x_s fun w58 sw58 B60 u59 => ?_
  iterate 8 refine st1 ?_
  refine x_k1 (fun _ => False) [0, 5, 6, 7, 8, 9, 10, 11, 13, 14] (fun (_x : Unit) => [(15, .int .i64 (x2 + ((farH (⟨(300 + x1), x2, (spq x0), (x3 % 40)⟩ : Hul) (offV (nth xs k))) * (spq x0))))]) (fun _x w => True) (fun K67 hK67 => ?_) ?_
  ·
   refine go ?_
   refine q_p (fun g97 => ?_) fun g97 => ?_
   ·
    refine go ?_
    refine x_c func7 rfl rfl (moorOne_c x2 _) ?_
    rintro _ w73 ⟨rfl, u74⟩ zu74
    refine go ?_
    refine x_c func7 rfl rfl (moorOne_c (spd x0) _) ?_
    rintro _ w78 ⟨rfl, u79⟩ zu79
    refine go ?_
    refine x_l fun bk82 w83 ebk82 sbk82 B84 u85 => ?_
    refine go ?_
    refine x_c func9 rfl rfl (Arrive_c (avK x2 (300 + x1) ((offV (nth xs k)).f) (spd x0)) (some ⟨bk82, 0, none⟩) bk82 0 1 ((offV (nth xs k)).f) _ (Sl.ofBlk (enc := encRun) (xs := (avK x2 (300 + x1) ((offV (nth xs k)).f) (spd x0)).runs) (fun _ => rfl) B84) (by show (1 : Nat) ≤ 1000000; decide)) ?_
    rintro _ w88 ⟨rfl, u89⟩ zu89
    have har9 := arr1 (x := x0) (m := x2) (p := (300 + x1)) (f := (offV (nth xs k)).f) (by omega) (by omega) (by omega) (by omega) (by omega)
    iterate 2 refine st1 ?_
    refine t_same 110 (v := .agg #[.int .i64 (x2 + ((farH (⟨(300 + x1), x2, (spq x0), (x3 % 40)⟩ : Hul) (offV (nth xs k))) * (spq x0))), .int .i64 (x2 + ((farH (⟨(300 + x1), x2, (spq x0), (x3 % 40)⟩ : Hul) (offV (nth xs k))) * (spq x0)))]) rfl (congrArg (fun x : Bnd => Value.agg #[.int .i64 x.lo, .int .i64 x.hi]) har9.2) ?_
    refine st1 ?_
    refine t_same 111 (v := .int .i64 0) rfl (congrArg (Value.int .i64) har9.1) ?_
    refine x_n fun bk92 w93 ebk92 sbk92 B94 u95 => ?_
    refine x_s fun w97 sw97 B99 u98 => ?_
    iterate 14 refine st1 ?_
    refine t_samehd (v := .bool false) (by simp) ?_
    refine go ?_
    have hmi9 : (x2 + ((farH (⟨(300 + x1), x2, (spq x0), (x3 % 40)⟩ : Hul) (offV (nth xs k))) * (spq x0))) = (x2 + ((farH (⟨(300 + x1), x2, (spq x0), (x3 % 40)⟩ : Hul) (offV (nth xs k))) * (spq x0))) := rfl
    exact hK67 () trivial (hs := by exact ⟨(congrArg (fun z => some (Value.int .i64 z)) hmi9), rfl, rfl, rfl, rfl, rfl, rfl, rfl, rfl, rfl, rfl, trivial⟩)
   refine go ?_
   have hmi9 : x2 = (x2 + ((farH (⟨(300 + x1), x2, (spq x0), (x3 % 40)⟩ : Hul) (offV (nth xs k))) * (spq x0))) := (by rw [far0 (h := (⟨(300 + x1), x2, (spq x0), (x3 % 40)⟩ : Hul)) (x := (offV (nth xs k))) (by dsimp only; omega)]; omega)
   exact hK67 () trivial (hs := by exact ⟨(congrArg (fun z => some (Value.int .i64 z)) hmi9), rfl, rfl, rfl, rfl, rfl, rfl, rfl, rfl, rfl, rfl, trivial⟩)
  rintro _x w68 _ u69 zu69
  refine go ?_
  refine t_max rfl rfl rfl rfl (t_same 129 (v := .int .i64 (farH (⟨(300 + x1), x2, (spq x0), (x3 % 40)⟩ : Hul) (offV (nth xs k)))) rfl rfl ?_)
  refine go ?_
  refine c_drawnM follows (fun _ => False) (OTl [0, 4, 6, 8, 10, 12, 3, 15, 16, 18, 20, 22, 24, 26, 28]) (by kernel_rfl) fun w106 u107 => ?_
  have zu107 := u107.size
  refine go ?_
  refine y_quo rfl rfl rfl rfl (by omega) (by omega) (y_same 136 (v := .int .i64 (spq x0)) rfl rfl ?_)
  refine go ?_
  refine x_l fun bk109 w110 ebk109 sbk109 B111 u112 => ?_
  refine go ?_
  refine x_c func17 rfl rfl (Best_c ([(offV (nth xs k))]) (some ⟨bk109, 0, none⟩) bk109 0 1 (⟨(300 + x1), x2, (spq x0), (x3 % 40)⟩ : Hul) _ (Sl.ofBlk (enc := encOff) (xs := [(offV (nth xs k))]) (fun _ => rfl) B111) (by show (1 : Nat) ≤ 1000000; decide) (by omega)) ?_
  rintro _ w115 ⟨⟨r1, e1, a1, g1, o1, c1, rfl, hA1, hE1, hR1⟩, u116⟩ zu116
  have he1 : e1 = 0 := hE1.trans (bestE_ok (by show (1 : Nat) ≤ 12; decide) (fun x hx => by rw [List.mem_singleton.1 hx]; exact hok9) hhu)
  obtain rfl : r1 = (bestP [(offV (nth xs k))] (⟨(300 + x1), x2, (spq x0), (x3 % 40)⟩ : Hul)) := (hR1.resolve_left (fun h => h.1 he1)).2
  iterate 5 refine st1 ?_
  refine y_same 141 (v := .int .i64 0) rfl (congrArg (Value.int .i64) (he1)) ?_
  refine go ?_
  refine t_quo rfl rfl rfl rfl (by omega) (by omega) (t_same 149 (v := .int .i64 (spq x0)) rfl rfl ?_)
  iterate 3 refine st1 ?_
  refine t_samehd (v := .bool false) (by simp) ?_
  iterate 6 refine st1 ?_
  refine x_k1 (fun _ => False) [0, 5, 6, 7, 8, 9, 11, 14] (fun (on2 : Int) => [(10, .int .i64 on2)]) (fun on2 w => (OneOk xs (⟨(300 + x1), x2, (spq x0), (x3 % 40)⟩ : Hul) (k + 1) on2)) (fun K125 hK125 => ?_) ?_
  ·
   refine go ?_
   refine t_splitp 158 rfl (fun g158 => ?_) (fun g158 => ?_)
   ·
    refine go ?_
    refine q_p (fun g165 => ?_) fun g165 => ?_
    ·
     iterate 5 refine st1 ?_
     refine t_same 167 (v := .int .i64 1) rfl (congrArg (Value.int .i64) (by rw [best1, if_pos (show x2 + (farH (⟨(300 + x1), x2, (spq x0), (x3 % 40)⟩ : Hul) (offV (nth xs k))) * (spq x0) ≤ (offV (nth xs k)).b ∧ 0 < (offV (nth xs k)).p - (farH (⟨(300 + x1), x2, (spq x0), (x3 % 40)⟩ : Hul) (offV (nth xs k))) * (x3 % 40) from ⟨by omega, by omega⟩)]; rfl)) ?_
     refine go ?_
     have i131 : 0 < (bestP [(offV (nth xs k))] (⟨(300 + x1), x2, (spq x0), (x3 % 40)⟩ : Hul)).s.length := (by rw [best1, if_pos (show x2 + (farH (⟨(300 + x1), x2, (spq x0), (x3 % 40)⟩ : Hul) (offV (nth xs k))) * (spq x0) ≤ (offV (nth xs k)).b ∧ 0 < (offV (nth xs k)).p - (farH (⟨(300 + x1), x2, (spq x0), (x3 % 40)⟩ : Hul) (offV (nth xs k))) * (x3 % 40) from ⟨by omega, by omega⟩)]; exact Nat.one_pos)
     refine g_i 0 hA1 (fun _ => ?_)
     refine st1 ?_
     refine t_same 172 (v := .int .i64 0) rfl (congrArg (Value.int .i64) (by rw [best1, if_pos (show x2 + (farH (⟨(300 + x1), x2, (spq x0), (x3 % 40)⟩ : Hul) (offV (nth xs k))) * (spq x0) ≤ (offV (nth xs k)).b ∧ 0 < (offV (nth xs k)).p - (farH (⟨(300 + x1), x2, (spq x0), (x3 % 40)⟩ : Hul) (offV (nth xs k))) * (x3 % 40) from ⟨by omega, by omega⟩)]; rfl)) ?_
     iterate 4 refine st1 ?_
     refine t_same 176 (v := .int .i64 (((offV (nth xs k)).p) - ((farH (⟨(300 + x1), x2, (spq x0), (x3 % 40)⟩ : Hul) (offV (nth xs k))) * (x3 % 40)))) rfl (congrArg (Value.int .i64) (by rw [best1, if_pos (show x2 + (farH (⟨(300 + x1), x2, (spq x0), (x3 % 40)⟩ : Hul) (offV (nth xs k))) * (spq x0) ≤ (offV (nth xs k)).b ∧ 0 < (offV (nth xs k)).p - (farH (⟨(300 + x1), x2, (spq x0), (x3 % 40)⟩ : Hul) (offV (nth xs k))) * (x3 % 40) from ⟨by omega, by omega⟩)])) ?_
     iterate 7 refine st1 ?_
     refine t_samehd (v := .bool false) (by simp) ?_
     refine go ?_
     refine t_max rfl rfl rfl rfl ?_
     refine go ?_
     exact hK125 (max on ((bestP [(offV (nth xs k))] (⟨(300 + x1), x2, (spq x0), (x3 % 40)⟩ : Hul)).g)) (hone.max (by show x2 + (farH (⟨(300 + x1), x2, (spq x0), (x3 % 40)⟩ : Hul) (offV (nth xs k))) * (spq x0) ≤ (offV (nth xs k)).b; omega) (by rw [best1, if_pos (show x2 + (farH (⟨(300 + x1), x2, (spq x0), (x3 % 40)⟩ : Hul) (offV (nth xs k))) * (spq x0) ≤ (offV (nth xs k)).b ∧ 0 < (offV (nth xs k)).p - (farH (⟨(300 + x1), x2, (spq x0), (x3 % 40)⟩ : Hul) (offV (nth xs k))) * (x3 % 40) from ⟨by omega, by omega⟩)]))
    iterate 4 refine st1 ?_
    refine t_same 189 (v := .int .i64 0) rfl (congrArg (Value.int .i64) (by rw [best1, if_neg (show ¬ (x2 + (farH (⟨(300 + x1), x2, (spq x0), (x3 % 40)⟩ : Hul) (offV (nth xs k))) * (spq x0) ≤ (offV (nth xs k)).b ∧ 0 < (offV (nth xs k)).p - (farH (⟨(300 + x1), x2, (spq x0), (x3 % 40)⟩ : Hul) (offV (nth xs k))) * (x3 % 40)) from by omega)]; rfl)) ?_
    iterate 3 refine st1 ?_
    refine t_same 192 (v := .int .i64 0) rfl (congrArg (Value.int .i64) (by rw [best1, if_neg (show ¬ (x2 + (farH (⟨(300 + x1), x2, (spq x0), (x3 % 40)⟩ : Hul) (offV (nth xs k))) * (spq x0) ≤ (offV (nth xs k)).b ∧ 0 < (offV (nth xs k)).p - (farH (⟨(300 + x1), x2, (spq x0), (x3 % 40)⟩ : Hul) (offV (nth xs k))) * (x3 % 40)) from by omega)])) ?_
    refine go ?_
    exact hK125 on hone.mono
   iterate 14 refine st1 ?_
   refine t_same 189 (v := .int .i64 0) rfl (congrArg (Value.int .i64) (by rw [best1, if_neg (show ¬ (x2 + (farH (⟨(300 + x1), x2, (spq x0), (x3 % 40)⟩ : Hul) (offV (nth xs k))) * (spq x0) ≤ (offV (nth xs k)).b ∧ 0 < (offV (nth xs k)).p - (farH (⟨(300 + x1), x2, (spq x0), (x3 % 40)⟩ : Hul) (offV (nth xs k))) * (x3 % 40)) from by omega)]; rfl)) ?_
   iterate 3 refine st1 ?_
   refine t_same 192 (v := .int .i64 0) rfl (congrArg (Value.int .i64) (by rw [best1, if_neg (show ¬ (x2 + (farH (⟨(300 + x1), x2, (spq x0), (x3 % 40)⟩ : Hul) (offV (nth xs k))) * (spq x0) ≤ (offV (nth xs k)).b ∧ 0 < (offV (nth xs k)).p - (farH (⟨(300 + x1), x2, (spq x0), (x3 % 40)⟩ : Hul) (offV (nth xs k))) * (x3 % 40)) from by omega)])) ?_
   refine go ?_
   exact hK125 on hone.mono
  rintro on2 w126 hone2 u127 zu127
  refine go ?_
  refine x_l fun bk135 w136 ebk135 sbk135 B137 u138 => ?_
  have D140 := ((((((((((hout.keep u45 (fun _ h => h)).keep u48 (fun hb => show ¬ (gw = bk42) by first | omega | assumption)).keep u56 (fun _ h => h)).keep u59 (fun hb => show ¬ (gw = bk53) by first | omega | assumption)).keep u69 (fun _ h => h)).keep u107 (fun _ h => h)).keep u112 (fun _ h => h)).keep u116 (fun _ h => h)).keep u127 (fun _ h => h)).keep u138 (fun _ h => h))
  refine t_append (z := .agg #[.int .i64 0, .int .i64 0, .int .i64 0, .int .i64 0, .int .i64 0]) (bytes := 40) (k := 5) (base := bk26) (offV (nth xs k)) underlying66 (by kernel_rfl) rfl (by decide) (fun _ => rfl) (by intro x; simp [encOff, Value.oneCell']) rfl rfl rfl rfl D140 B137 (by omega) (by omega) (by decide) (fun ao141 gb142 cp143 w144 A145 u146 gegb142 lngb142 => ?_)
  have zu146 := u146.size
  have lt_gb142 := A145.lt
  refine go ?_
  exact hK33 (k + 1) ao141 gb142 cp143 on2 ⟨(by omega), (by rw [hst9]; exact A145), hone2⟩ (hs := by exact ⟨(by first | (rw [hst9]; rfl) | rfl), rfl, rfl, rfl, rfl, rfl, rfl, rfl, trivial⟩) (hu := (((((((((((u35.nx u45).next u48 (fun i hi (h : i = bk42) => show bk26 ≤ i by first | omega | assumption)).nx u56).next u59 (fun i hi (h : i = bk53) => show bk26 ≤ i by first | omega | assumption)).nx u69).nx u107).nx u112).nx u116).nx u127).nx u138).next u146 (fun i hi (h : (i = gw ∧ bk26 ≤ i)) => show bk26 ≤ i by first | omega | assumption)))
 have hoks := fun o (ho : o ∈ ((xs.take k).map offV)) => offs_rng hxs ho
 obtain ⟨hg0, hz0, hfe0, hgn0⟩ := bst_gn (l := ((xs.take k).map offV)) (h := (⟨(300 + x1), x2, (spq x0), (x3 % 40)⟩ : Hul))
 have hbf := bst_few (l := ((xs.take k).map offV)) (h := (⟨(300 + x1), x2, (spq x0), (x3 % 40)⟩ : Hul))
 refine go ?_
 refine c_drawnM follows (fun _ => False) (OTl [2, 6, 8, 10, 12, 14, 1, 5, 17, 18, 20, 22, 24, 26, 28, 30]) (by kernel_rfl) fun w149 u150 => ?_
 have zu150 := u150.size
 refine go ?_
 refine y_quo rfl rfl rfl rfl (by omega) (by omega) (y_same 206 (v := .int .i64 (spq x0)) rfl rfl ?_)
 refine go ?_
 refine x_l fun bk152 w153 ebk152 sbk152 B154 u155 => ?_
 refine go ?_
 have D157 := ((hout.keep u150 (fun _ h => h)).keep u155 (fun _ h => h))
 refine t_copy (enc := encOff) (z := .agg #[.int .i64 0, .int .i64 0, .int .i64 0, .int .i64 0, .int .i64 0]) (bytes := 40) (k := 5) (ys := ((xs.take k).map offV)) underlying66 (by kernel_rfl) rfl (by decide) (fun _ => rfl) (by intro x; simp [encOff, Value.oneCell']) rfl rfl rfl rfl B154 (D157.sl (fun _ => rfl)) (by omega) (by decide) (fun ao158 gb159 cp160 w161 A162 u163 gegb159 => ?_)
 have zu163 := u163.size
 have lt_gb159 := A162.lt
 refine go ?_
 refine x_c func17 rfl rfl (Best_c ((xs.take k).map offV) ao158 gb159 0 cp160 (⟨(300 + x1), x2, (spq x0), (x3 % 40)⟩ : Hul) _ (A162.sl (fun _ => rfl)) (by omega) (by omega)) ?_
 rintro _ w166 ⟨⟨r2, e2, a2, g2, o2, c2, rfl, hA2, hE2, hR2⟩, u167⟩ zu167
 have he2 : e2 = 0 := hE2.trans (bestE_ok (by omega) (fun o ho => (hoks o ho).1) hhu)
 obtain rfl : r2 = (bestP ((xs.take k).map offV) (⟨(300 + x1), x2, (spq x0), (x3 % 40)⟩ : Hul)) := (hR2.resolve_left (fun h => h.1 he2)).2
 iterate 5 refine st1 ?_
 refine y_same 211 (v := .int .i64 0) rfl (congrArg (Value.int .i64) (he2)) ?_
 iterate 14 refine st1 ?_
 refine t_same 217 (v := .bool false) rfl (congrArg Value.bool (decide_eq_false (by have := hone.fin hk; omega))) ?_
 iterate 7 refine st1 ?_
 refine t_same 224 (v := .bool false) rfl (congrArg Value.bool (decide_eq_false (by omega))) ?_
 refine go ?_
 refine x_l4 (fun _ => False) [5, 8, 9, 22, 23] (fun (j : Nat) (pa : Int) (mi : Int) (sm : Int) => [(25, .int .i64 pa), (26, .int .i64 mi), (27, .int .i64 sm), (28, .int .i64 (j : Int))]) (fun j pa mi sm w => (j ≤ (bestP ((xs.take k).map offV) (⟨(300 + x1), x2, (spq x0), (x3 % 40)⟩ : Hul)).s.length) ∧ (Fea ((xs.take k).map offV) (⟨pa, mi, (spq x0), (x3 % 40)⟩ : Hul) ((bestP ((xs.take k).map offV) (⟨(300 + x1), x2, (spq x0), (x3 % 40)⟩ : Hul)).s.drop j)) ∧ (sm + gnF ((xs.take k).map offV) (⟨pa, mi, (spq x0), (x3 % 40)⟩ : Hul) ((bestP ((xs.take k).map offV) (⟨(300 + x1), x2, (spq x0), (x3 % 40)⟩ : Hul)).s.drop j) = (bestP ((xs.take k).map offV) (⟨(300 + x1), x2, (spq x0), (x3 % 40)⟩ : Hul)).g) ∧ ((200 ≤ pa ∧ pa ≤ 710) ∧ (0 ≤ mi ∧ mi ≤ 1530) ∧ (-25000 * (j : Int) ≤ sm ∧ sm ≤ 25000 * (j : Int)))) (fun j pa mi sm => (bestP ((xs.take k).map offV) (⟨(300 + x1), x2, (spq x0), (x3 % 40)⟩ : Hul)).s.length - j) 0 (300 + x1) x2 0 ⟨(Nat.zero_le _), hfe0, ((Int.zero_add _).trans hgn0), (by omega)⟩ ?_
 rintro j pa mi sm w176 ⟨hj, hfe, hsm, hrg⟩ u177 zu177 K175 hK175
 refine go ?_
 refine q_p (fun g231 => ?_) fun g231 => ?_
 ·
  have hfa9 := fea_at (l := ((xs.take k).map offV)) (h := (⟨pa, mi, (spq x0), (x3 % 40)⟩ : Hul)) (s := (bestP ((xs.take k).map offV) (⟨(300 + x1), x2, (spq x0), (x3 % 40)⟩ : Hul)).s) (k := j) (by omega) hfe
  have hmo9 := hoks _ (nth_mem (xs := ((xs.take k).map offV)) (i := (nth (bestP ((xs.take k).map offV) (⟨(300 + x1), x2, (spq x0), (x3 % 40)⟩ : Hul)).s j).toNat) (by omega))
  have hfa8 : mi + (farH (⟨pa, mi, (spq x0), (x3 % 40)⟩ : Hul) (nth ((xs.take k).map offV) (nth (bestP ((xs.take k).map offV) (⟨(300 + x1), x2, (spq x0), (x3 % 40)⟩ : Hul)).s j).toNat)) * (spq x0) ≤ (nth ((xs.take k).map offV) (nth (bestP ((xs.take k).map offV) (⟨(300 + x1), x2, (spq x0), (x3 % 40)⟩ : Hul)).s j).toNat).b := hfa9.2.1
  have hfc9 : (0 ≤ (farH (⟨pa, mi, (spq x0), (x3 % 40)⟩ : Hul) (nth ((xs.take k).map offV) (nth (bestP ((xs.take k).map offV) (⟨(300 + x1), x2, (spq x0), (x3 % 40)⟩ : Hul)).s j).toNat)) ∧ (farH (⟨pa, mi, (spq x0), (x3 % 40)⟩ : Hul) (nth ((xs.take k).map offV) (nth (bestP ((xs.take k).map offV) (⟨(300 + x1), x2, (spq x0), (x3 % 40)⟩ : Hul)).s j).toNat)) ≤ 510) ∧ 0 ≤ (farH (⟨pa, mi, (spq x0), (x3 % 40)⟩ : Hul) (nth ((xs.take k).map offV) (nth (bestP ((xs.take k).map offV) (⟨(300 + x1), x2, (spq x0), (x3 % 40)⟩ : Hul)).s j).toNat)) * (x3 % 40) ∧ (farH (⟨pa, mi, (spq x0), (x3 % 40)⟩ : Hul) (nth ((xs.take k).map offV) (nth (bestP ((xs.take k).map offV) (⟨(300 + x1), x2, (spq x0), (x3 % 40)⟩ : Hul)).s j).toNat)) * (x3 % 40) ≤ 20400 := farH_c (h := (⟨pa, mi, (spq x0), (x3 % 40)⟩ : Hul)) (o := (nth ((xs.take k).map offV) (nth (bestP ((xs.take k).map offV) (⟨(300 + x1), x2, (spq x0), (x3 % 40)⟩ : Hul)).s j).toNat)) hrg.1 hmo9.2.1 (by dsimp only; omega)
  have hfm9 := spq_mul (x := x0) hx0 (a := (farH (⟨pa, mi, (spq x0), (x3 % 40)⟩ : Hul) (nth ((xs.take k).map offV) (nth (bestP ((xs.take k).map offV) (⟨(300 + x1), x2, (spq x0), (x3 % 40)⟩ : Hul)).s j).toNat))) (by omega)
  refine go ?_
  have D184 := (hA2.keep u177 (fun _ h => h))
  refine g_i j D184 (fun _ => ?_)
  iterate 2 refine st1 ?_
  refine t_same 238 (v := .bool false) rfl (congrArg Value.bool (decide_eq_false (by omega))) ?_
  refine go ?_
  refine g_i j D184 (fun _ => ?_)
  iterate 4 refine st1 ?_
  refine t_same 246 (v := .bool false) rfl (congrArg Value.bool (decide_eq_false (by omega))) ?_
  refine go ?_
  refine g_i j D184 (fun _ => ?_)
  refine go ?_
  have D189 := (((D157.keep u163 (fun hb => show ¬ ((gw = bk152 ∧ bk152 ≤ gw)) by first | omega | assumption)).keep u167 (fun _ h => h)).keep u177 (fun _ h => h))
  refine g_i ((nth (bestP ((xs.take k).map offV) (⟨(300 + x1), x2, (spq x0), (x3 % 40)⟩ : Hul)).s j).toNat) (D189.sl (fun _ => rfl)) (fun _ => ?_) (hj := (by omega))
  refine go ?_
  refine x_n fun bk191 w192 ebk191 sbk191 B193 u194 => ?_
  refine x_s fun w196 sw196 B198 u197 => ?_
  iterate 2 refine st1 ?_
  refine x_k1 (fun _ => False) [5, 8, 9, 22, 23, 25, 27, 28, 29] (fun (_x : Unit) => [(26, .int .i64 (mi + ((farH (⟨pa, mi, (spq x0), (x3 % 40)⟩ : Hul) (nth ((xs.take k).map offV) (nth (bestP ((xs.take k).map offV) (⟨(300 + x1), x2, (spq x0), (x3 % 40)⟩ : Hul)).s j).toNat)) * (spq x0))))]) (fun _x w => True) (fun K204 hK204 => ?_) ?_
  ·
   refine go ?_
   refine q_p (fun g258 => ?_) fun g258 => ?_
   ·
    refine x_k1 (fun _ => False) [5, 8, 9, 22, 23, 25, 27, 28, 29] (fun (b30 : Nat) => [(30, .pointer (some ⟨b30, 0, none⟩)), (31, .int .i64 0)]) (fun b30 w => (Blk w b30 28 [.int .i64 (mi + ((farH (⟨pa, mi, (spq x0), (x3 % 40)⟩ : Hul) (nth ((xs.take k).map offV) (nth (bestP ((xs.take k).map offV) (⟨(300 + x1), x2, (spq x0), (x3 % 40)⟩ : Hul)).s j).toNat)) * (spq x0))), .int .i64 (mi + ((farH (⟨pa, mi, (spq x0), (x3 % 40)⟩ : Hul) (nth ((xs.take k).map offV) (nth (bestP ((xs.take k).map offV) (⟨(300 + x1), x2, (spq x0), (x3 % 40)⟩ : Hul)).s j).toNat)) * (spq x0)))])) (fun K212 hK212 => ?_) ?_
    ·
     refine c_drawnM follows (fun _ => False) (.look 0 (.look 2 (.look 3 (.look 4 (.look 5 (.look 10 (.look 11 (.act 1 (.act 6 (.look 7 (.act 8 (.look 9 (.act 12 (.look 13 (.look 14 (.look 15 (.act 16 (.act 17 (.look 18 .done) .stop) .stop)))) (.act 16 (.act 12 (.look 13 (.look 14 (.look 15 (.act 17 (.look 18 .done) .stop)))) .stop) .stop))) (.act 16 (.act 8 (.look 9 (.act 12 (.look 13 (.look 14 (.look 15 (.act 17 (.look 18 .done) .stop)))) .stop)) .stop) .stop))) (.act 16 (.act 6 (.look 7 (.act 8 (.look 9 (.act 12 (.look 13 (.look 14 (.look 15 (.act 17 (.look 18 .done) .stop)))) .stop)) .stop)) .stop) .stop)) (.act 16 (.act 1 (.act 6 (.look 7 (.act 8 (.look 9 (.act 12 (.look 13 (.look 14 (.look 15 (.act 17 (.look 18 .done) .stop)))) .stop)) .stop)) .stop) .stop) .stop))))))))) (by kernel_rfl) fun w215 u216 => ?_
     have zu216 := u216.size
     refine go ?_
     refine s_or ?_ ?_
     ·
      refine go ?_
      refine x_c func7 rfl rfl (moorOne_c mi _) ?_
      rintro _ w219 ⟨rfl, u220⟩ zu220
      refine go ?_
      refine s_or ?_ ?_
      ·
       refine go ?_
       refine x_c func7 rfl rfl (moorOne_c (spd x0) _) ?_
       rintro _ w224 ⟨rfl, u225⟩ zu225
       refine go ?_
       refine s_or ?_ ?_
       ·
        refine go ?_
        refine x_l fun bk228 w229 ebk228 sbk228 B230 u231 => ?_
        refine go ?_
        refine s_or ?_ ?_
        ·
         refine go ?_
         refine x_c func9 rfl rfl (Arrive_c (avK mi pa ((nth ((xs.take k).map offV) ((nth (bestP ((xs.take k).map offV) (⟨(300 + x1), x2, (spq x0), (x3 % 40)⟩ : Hul)).s j).toNat)).f) (spd x0)) (some ⟨bk228, 0, none⟩) bk228 0 1 ((nth ((xs.take k).map offV) ((nth (bestP ((xs.take k).map offV) (⟨(300 + x1), x2, (spq x0), (x3 % 40)⟩ : Hul)).s j).toNat)).f) _ (Sl.ofBlk (enc := encRun) (xs := (avK mi pa ((nth ((xs.take k).map offV) ((nth (bestP ((xs.take k).map offV) (⟨(300 + x1), x2, (spq x0), (x3 % 40)⟩ : Hul)).s j).toNat)).f) (spd x0)).runs) (fun _ => rfl) B230) (by show (1 : Nat) ≤ 1000000; decide)) ?_
         rintro _ w234 ⟨rfl, u235⟩ zu235
         have har9 := arr1 (x := x0) (m := mi) (p := pa) (f := (nth ((xs.take k).map offV) ((nth (bestP ((xs.take k).map offV) (⟨(300 + x1), x2, (spq x0), (x3 % 40)⟩ : Hul)).s j).toNat)).f) (by omega) (by omega) (by omega) (by omega) (by omega)
         iterate 3 refine st1 ?_
         refine y_same 273 (v := .agg #[.int .i64 (mi + ((farH (⟨pa, mi, (spq x0), (x3 % 40)⟩ : Hul) (nth ((xs.take k).map offV) (nth (bestP ((xs.take k).map offV) (⟨(300 + x1), x2, (spq x0), (x3 % 40)⟩ : Hul)).s j).toNat)) * (spq x0))), .int .i64 (mi + ((farH (⟨pa, mi, (spq x0), (x3 % 40)⟩ : Hul) (nth ((xs.take k).map offV) (nth (bestP ((xs.take k).map offV) (⟨(300 + x1), x2, (spq x0), (x3 % 40)⟩ : Hul)).s j).toNat)) * (spq x0)))]) rfl (congrArg (fun x : Bnd => Value.agg #[.int .i64 x.lo, .int .i64 x.hi]) har9.2) ?_
         refine st1 ?_
         refine y_same 274 (v := .int .i64 0) rfl (congrArg (Value.int .i64) har9.1) ?_
         refine go ?_
         refine x_n fun bk238 w239 ebk238 sbk238 B240 u241 => ?_
         refine go ?_
         refine x_s fun w243 sw243 B245 u244 => ?_
         refine go ?_
         exact hK212 bk238 B245
        refine go ?_
        refine x_n fun bk247 w248 ebk247 sbk247 B249 u250 => ?_
        refine go ?_
        have B252 := (B230.kx u250)
        refine x_c func9 rfl rfl (Arrive_c (avK mi pa ((nth ((xs.take k).map offV) ((nth (bestP ((xs.take k).map offV) (⟨(300 + x1), x2, (spq x0), (x3 % 40)⟩ : Hul)).s j).toNat)).f) (spd x0)) (some ⟨bk228, 0, none⟩) bk228 0 1 ((nth ((xs.take k).map offV) ((nth (bestP ((xs.take k).map offV) (⟨(300 + x1), x2, (spq x0), (x3 % 40)⟩ : Hul)).s j).toNat)).f) _ (Sl.ofBlk (enc := encRun) (xs := (avK mi pa ((nth ((xs.take k).map offV) ((nth (bestP ((xs.take k).map offV) (⟨(300 + x1), x2, (spq x0), (x3 % 40)⟩ : Hul)).s j).toNat)).f) (spd x0)).runs) (fun _ => rfl) B252) (by show (1 : Nat) ≤ 1000000; decide)) ?_
        rintro _ w254 ⟨rfl, u255⟩ zu255
        have har9 := arr1 (x := x0) (m := mi) (p := pa) (f := (nth ((xs.take k).map offV) ((nth (bestP ((xs.take k).map offV) (⟨(300 + x1), x2, (spq x0), (x3 % 40)⟩ : Hul)).s j).toNat)).f) (by omega) (by omega) (by omega) (by omega) (by omega)
        iterate 3 refine st1 ?_
        refine y_same 273 (v := .agg #[.int .i64 (mi + ((farH (⟨pa, mi, (spq x0), (x3 % 40)⟩ : Hul) (nth ((xs.take k).map offV) (nth (bestP ((xs.take k).map offV) (⟨(300 + x1), x2, (spq x0), (x3 % 40)⟩ : Hul)).s j).toNat)) * (spq x0))), .int .i64 (mi + ((farH (⟨pa, mi, (spq x0), (x3 % 40)⟩ : Hul) (nth ((xs.take k).map offV) (nth (bestP ((xs.take k).map offV) (⟨(300 + x1), x2, (spq x0), (x3 % 40)⟩ : Hul)).s j).toNat)) * (spq x0)))]) rfl (congrArg (fun x : Bnd => Value.agg #[.int .i64 x.lo, .int .i64 x.hi]) har9.2) ?_
        refine st1 ?_
        refine y_same 274 (v := .int .i64 0) rfl (congrArg (Value.int .i64) har9.1) ?_
        refine go ?_
        refine x_s fun w258 sw258 B260 u259 => ?_
        refine go ?_
        exact hK212 bk247 B260
       refine go ?_
       refine x_n fun bk262 w263 ebk262 sbk262 B264 u265 => ?_
       refine go ?_
       refine x_l fun bk267 w268 ebk267 sbk267 B269 u270 => ?_
       refine go ?_
       refine x_c func9 rfl rfl (Arrive_c (avK mi pa ((nth ((xs.take k).map offV) ((nth (bestP ((xs.take k).map offV) (⟨(300 + x1), x2, (spq x0), (x3 % 40)⟩ : Hul)).s j).toNat)).f) (spd x0)) (some ⟨bk267, 0, none⟩) bk267 0 1 ((nth ((xs.take k).map offV) ((nth (bestP ((xs.take k).map offV) (⟨(300 + x1), x2, (spq x0), (x3 % 40)⟩ : Hul)).s j).toNat)).f) _ (Sl.ofBlk (enc := encRun) (xs := (avK mi pa ((nth ((xs.take k).map offV) ((nth (bestP ((xs.take k).map offV) (⟨(300 + x1), x2, (spq x0), (x3 % 40)⟩ : Hul)).s j).toNat)).f) (spd x0)).runs) (fun _ => rfl) B269) (by show (1 : Nat) ≤ 1000000; decide)) ?_
       rintro _ w273 ⟨rfl, u274⟩ zu274
       have har9 := arr1 (x := x0) (m := mi) (p := pa) (f := (nth ((xs.take k).map offV) ((nth (bestP ((xs.take k).map offV) (⟨(300 + x1), x2, (spq x0), (x3 % 40)⟩ : Hul)).s j).toNat)).f) (by omega) (by omega) (by omega) (by omega) (by omega)
       iterate 3 refine st1 ?_
       refine y_same 273 (v := .agg #[.int .i64 (mi + ((farH (⟨pa, mi, (spq x0), (x3 % 40)⟩ : Hul) (nth ((xs.take k).map offV) (nth (bestP ((xs.take k).map offV) (⟨(300 + x1), x2, (spq x0), (x3 % 40)⟩ : Hul)).s j).toNat)) * (spq x0))), .int .i64 (mi + ((farH (⟨pa, mi, (spq x0), (x3 % 40)⟩ : Hul) (nth ((xs.take k).map offV) (nth (bestP ((xs.take k).map offV) (⟨(300 + x1), x2, (spq x0), (x3 % 40)⟩ : Hul)).s j).toNat)) * (spq x0)))]) rfl (congrArg (fun x : Bnd => Value.agg #[.int .i64 x.lo, .int .i64 x.hi]) har9.2) ?_
       refine st1 ?_
       refine y_same 274 (v := .int .i64 0) rfl (congrArg (Value.int .i64) har9.1) ?_
       refine go ?_
       refine x_s fun w277 sw277 B279 u278 => ?_
       refine go ?_
       exact hK212 bk262 B279
      refine go ?_
      refine x_n fun bk281 w282 ebk281 sbk281 B283 u284 => ?_
      refine go ?_
      refine x_c func7 rfl rfl (moorOne_c (spd x0) _) ?_
      rintro _ w287 ⟨rfl, u288⟩ zu288
      refine go ?_
      refine x_l fun bk291 w292 ebk291 sbk291 B293 u294 => ?_
      refine go ?_
      refine x_c func9 rfl rfl (Arrive_c (avK mi pa ((nth ((xs.take k).map offV) ((nth (bestP ((xs.take k).map offV) (⟨(300 + x1), x2, (spq x0), (x3 % 40)⟩ : Hul)).s j).toNat)).f) (spd x0)) (some ⟨bk291, 0, none⟩) bk291 0 1 ((nth ((xs.take k).map offV) ((nth (bestP ((xs.take k).map offV) (⟨(300 + x1), x2, (spq x0), (x3 % 40)⟩ : Hul)).s j).toNat)).f) _ (Sl.ofBlk (enc := encRun) (xs := (avK mi pa ((nth ((xs.take k).map offV) ((nth (bestP ((xs.take k).map offV) (⟨(300 + x1), x2, (spq x0), (x3 % 40)⟩ : Hul)).s j).toNat)).f) (spd x0)).runs) (fun _ => rfl) B293) (by show (1 : Nat) ≤ 1000000; decide)) ?_
      rintro _ w297 ⟨rfl, u298⟩ zu298
      have har9 := arr1 (x := x0) (m := mi) (p := pa) (f := (nth ((xs.take k).map offV) ((nth (bestP ((xs.take k).map offV) (⟨(300 + x1), x2, (spq x0), (x3 % 40)⟩ : Hul)).s j).toNat)).f) (by omega) (by omega) (by omega) (by omega) (by omega)
      iterate 3 refine st1 ?_
      refine y_same 273 (v := .agg #[.int .i64 (mi + ((farH (⟨pa, mi, (spq x0), (x3 % 40)⟩ : Hul) (nth ((xs.take k).map offV) (nth (bestP ((xs.take k).map offV) (⟨(300 + x1), x2, (spq x0), (x3 % 40)⟩ : Hul)).s j).toNat)) * (spq x0))), .int .i64 (mi + ((farH (⟨pa, mi, (spq x0), (x3 % 40)⟩ : Hul) (nth ((xs.take k).map offV) (nth (bestP ((xs.take k).map offV) (⟨(300 + x1), x2, (spq x0), (x3 % 40)⟩ : Hul)).s j).toNat)) * (spq x0)))]) rfl (congrArg (fun x : Bnd => Value.agg #[.int .i64 x.lo, .int .i64 x.hi]) har9.2) ?_
      refine st1 ?_
      refine y_same 274 (v := .int .i64 0) rfl (congrArg (Value.int .i64) har9.1) ?_
      refine go ?_
      refine x_s fun w301 sw301 B303 u302 => ?_
      refine go ?_
      exact hK212 bk281 B303
     refine go ?_
     refine x_n fun bk305 w306 ebk305 sbk305 B307 u308 => ?_
     refine go ?_
     refine x_c func7 rfl rfl (moorOne_c mi _) ?_
     rintro _ w311 ⟨rfl, u312⟩ zu312
     refine go ?_
     refine x_c func7 rfl rfl (moorOne_c (spd x0) _) ?_
     rintro _ w316 ⟨rfl, u317⟩ zu317
     refine go ?_
     refine x_l fun bk320 w321 ebk320 sbk320 B322 u323 => ?_
     refine go ?_
     refine x_c func9 rfl rfl (Arrive_c (avK mi pa ((nth ((xs.take k).map offV) ((nth (bestP ((xs.take k).map offV) (⟨(300 + x1), x2, (spq x0), (x3 % 40)⟩ : Hul)).s j).toNat)).f) (spd x0)) (some ⟨bk320, 0, none⟩) bk320 0 1 ((nth ((xs.take k).map offV) ((nth (bestP ((xs.take k).map offV) (⟨(300 + x1), x2, (spq x0), (x3 % 40)⟩ : Hul)).s j).toNat)).f) _ (Sl.ofBlk (enc := encRun) (xs := (avK mi pa ((nth ((xs.take k).map offV) ((nth (bestP ((xs.take k).map offV) (⟨(300 + x1), x2, (spq x0), (x3 % 40)⟩ : Hul)).s j).toNat)).f) (spd x0)).runs) (fun _ => rfl) B322) (by show (1 : Nat) ≤ 1000000; decide)) ?_
     rintro _ w326 ⟨rfl, u327⟩ zu327
     have har9 := arr1 (x := x0) (m := mi) (p := pa) (f := (nth ((xs.take k).map offV) ((nth (bestP ((xs.take k).map offV) (⟨(300 + x1), x2, (spq x0), (x3 % 40)⟩ : Hul)).s j).toNat)).f) (by omega) (by omega) (by omega) (by omega) (by omega)
     iterate 3 refine st1 ?_
     refine y_same 273 (v := .agg #[.int .i64 (mi + ((farH (⟨pa, mi, (spq x0), (x3 % 40)⟩ : Hul) (nth ((xs.take k).map offV) (nth (bestP ((xs.take k).map offV) (⟨(300 + x1), x2, (spq x0), (x3 % 40)⟩ : Hul)).s j).toNat)) * (spq x0))), .int .i64 (mi + ((farH (⟨pa, mi, (spq x0), (x3 % 40)⟩ : Hul) (nth ((xs.take k).map offV) (nth (bestP ((xs.take k).map offV) (⟨(300 + x1), x2, (spq x0), (x3 % 40)⟩ : Hul)).s j).toNat)) * (spq x0)))]) rfl (congrArg (fun x : Bnd => Value.agg #[.int .i64 x.lo, .int .i64 x.hi]) har9.2) ?_
     refine st1 ?_
     refine y_same 274 (v := .int .i64 0) rfl (congrArg (Value.int .i64) har9.1) ?_
     refine go ?_
     refine x_s fun w330 sw330 B332 u331 => ?_
     refine go ?_
     exact hK212 bk305 B332
    rintro b30 w213 hb30 u214 zu214
    refine go ?_
    have hmi9 : (mi + ((farH (⟨pa, mi, (spq x0), (x3 % 40)⟩ : Hul) (nth ((xs.take k).map offV) (nth (bestP ((xs.take k).map offV) (⟨(300 + x1), x2, (spq x0), (x3 % 40)⟩ : Hul)).s j).toNat)) * (spq x0))) = (mi + ((farH (⟨pa, mi, (spq x0), (x3 % 40)⟩ : Hul) (nth ((xs.take k).map offV) (nth (bestP ((xs.take k).map offV) (⟨(300 + x1), x2, (spq x0), (x3 % 40)⟩ : Hul)).s j).toNat)) * (spq x0))) := rfl
    exact hK204 () trivial (hs := by exact ⟨(congrArg (fun z => some (Value.int .i64 z)) hmi9), rfl, rfl, rfl, rfl, rfl, rfl, rfl, rfl, rfl, trivial⟩)
   refine go ?_
   have hmi9 : mi = (mi + ((farH (⟨pa, mi, (spq x0), (x3 % 40)⟩ : Hul) (nth ((xs.take k).map offV) (nth (bestP ((xs.take k).map offV) (⟨(300 + x1), x2, (spq x0), (x3 % 40)⟩ : Hul)).s j).toNat)) * (spq x0))) := (by rw [far0 (h := (⟨pa, mi, (spq x0), (x3 % 40)⟩ : Hul)) (x := (nth ((xs.take k).map offV) (nth (bestP ((xs.take k).map offV) (⟨(300 + x1), x2, (spq x0), (x3 % 40)⟩ : Hul)).s j).toNat)) (by dsimp only; omega)]; omega)
   exact hK204 () trivial (hs := by exact ⟨(congrArg (fun z => some (Value.int .i64 z)) hmi9), rfl, rfl, rfl, rfl, rfl, rfl, rfl, rfl, rfl, trivial⟩)
  rintro _x w205 _ u206 zu206
  iterate 7 refine st1 ?_
  refine t_same 282 (v := .bool false) rfl (congrArg Value.bool (decide_eq_false (by omega))) ?_
  refine go ?_
  refine c_drawnM follows (fun _ => False) (OTl [0, 2, 4, 6, 8, 10, 12, 14, 16, 18, 20, 22, 24, 26, 28, 30, 32, 34, 36, 38, 40, 42, 44]) (by kernel_rfl) fun w340 u341 => ?_
  have zu341 := u341.size
  refine go ?_
  refine y_max rfl rfl rfl rfl (y_same 299 (v := .int .i64 (farH (⟨pa, mi, (spq x0), (x3 % 40)⟩ : Hul) (nth ((xs.take k).map offV) (nth (bestP ((xs.take k).map offV) (⟨(300 + x1), x2, (spq x0), (x3 % 40)⟩ : Hul)).s j).toNat))) rfl rfl ?_)
  refine go ?_
  have hfb9 : gnF ((xs.take k).map offV) (⟨pa, mi, (spq x0), (x3 % 40)⟩ : Hul) ((bestP ((xs.take k).map offV) (⟨(300 + x1), x2, (spq x0), (x3 % 40)⟩ : Hul)).s.drop j) = (nth ((xs.take k).map offV) (nth (bestP ((xs.take k).map offV) (⟨(300 + x1), x2, (spq x0), (x3 % 40)⟩ : Hul)).s j).toNat).p - (farH (⟨pa, mi, (spq x0), (x3 % 40)⟩ : Hul) (nth ((xs.take k).map offV) (nth (bestP ((xs.take k).map offV) (⟨(300 + x1), x2, (spq x0), (x3 % 40)⟩ : Hul)).s j).toNat)) * (x3 % 40) + gnF ((xs.take k).map offV) (aftH (⟨pa, mi, (spq x0), (x3 % 40)⟩ : Hul) (nth ((xs.take k).map offV) (nth (bestP ((xs.take k).map offV) (⟨(300 + x1), x2, (spq x0), (x3 % 40)⟩ : Hul)).s j).toNat)) ((bestP ((xs.take k).map offV) (⟨(300 + x1), x2, (spq x0), (x3 % 40)⟩ : Hul)).s.drop (j + 1)) := hfa9.2.2.2
  exact hK175 (j + 1) ((nth ((xs.take k).map offV) (nth (bestP ((xs.take k).map offV) (⟨(300 + x1), x2, (spq x0), (x3 % 40)⟩ : Hul)).s j).toNat).t) ((nth ((xs.take k).map offV) (nth (bestP ((xs.take k).map offV) (⟨(300 + x1), x2, (spq x0), (x3 % 40)⟩ : Hul)).s j).toNat).e) ((sm + ((nth ((xs.take k).map offV) ((nth (bestP ((xs.take k).map offV) (⟨(300 + x1), x2, (spq x0), (x3 % 40)⟩ : Hul)).s j).toNat)).p)) - ((farH (⟨pa, mi, (spq x0), (x3 % 40)⟩ : Hul) (nth ((xs.take k).map offV) (nth (bestP ((xs.take k).map offV) (⟨(300 + x1), x2, (spq x0), (x3 % 40)⟩ : Hul)).s j).toNat)) * (x3 % 40))) ⟨(by omega), hfa9.2.2.1, (by have e9 : ((sm + ((nth ((xs.take k).map offV) ((nth (bestP ((xs.take k).map offV) (⟨(300 + x1), x2, (spq x0), (x3 % 40)⟩ : Hul)).s j).toNat)).p)) - ((farH (⟨pa, mi, (spq x0), (x3 % 40)⟩ : Hul) (nth ((xs.take k).map offV) (nth (bestP ((xs.take k).map offV) (⟨(300 + x1), x2, (spq x0), (x3 % 40)⟩ : Hul)).s j).toNat)) * (x3 % 40))) + gnF ((xs.take k).map offV) (aftH (⟨pa, mi, (spq x0), (x3 % 40)⟩ : Hul) (nth ((xs.take k).map offV) (nth (bestP ((xs.take k).map offV) (⟨(300 + x1), x2, (spq x0), (x3 % 40)⟩ : Hul)).s j).toNat)) ((bestP ((xs.take k).map offV) (⟨(300 + x1), x2, (spq x0), (x3 % 40)⟩ : Hul)).s.drop (j + 1)) = (bestP ((xs.take k).map offV) (⟨(300 + x1), x2, (spq x0), (x3 % 40)⟩ : Hul)).g := (by omega); exact e9), (by omega)⟩
 have hge9 := gnF_end (l := ((xs.take k).map offV)) (h := (⟨pa, mi, (spq x0), (x3 % 40)⟩ : Hul)) (s := (bestP ((xs.take k).map offV) (⟨(300 + x1), x2, (spq x0), (x3 % 40)⟩ : Hul)).s) (k := j) (by omega)
 iterate 11 refine st1 ?_
 refine t_same 305 (v := .bool true) rfl (congrArg Value.bool (decide_eq_true (by omega))) ?_
 refine go ?_
 refine x_c func15 rfl rfl (moorPays_c _) ?_
 rintro _ w345 ⟨rfl, u346⟩ zu346
 refine go ?_
 refine x_c func16 rfl rfl (moorStops_c _) ?_
 rintro _ w350 ⟨rfl, u351⟩ zu351
 refine go ?_
 refine f_1 results4 ?_
 exact ⟨rfl, u_d⟩

end Go.Proofs.YtclinbbghnebaaaGreat
