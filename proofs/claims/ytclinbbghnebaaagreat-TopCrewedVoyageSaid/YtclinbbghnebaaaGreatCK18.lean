/-
  Part 18 of the proof: contracts and plain laws. Conditions: none.
-/
import Derived.Test.YtclinbbghnebaaaGreatCK17
namespace Go.Proofs.YtclinbbghnebaaaGreat
open Go Go.RowKit
set_option maxRecDepth 10000

/-- Times that lie within others. -/
def InD (d' d : Dty) : Prop := d.bl ≤ d'.bl ∧ d'.bl ≤ d'.eh ∧ d'.eh ≤ d.eh
/-- A member who works within the times of another one. -/
structure ShrM (m m' : Mb) : Prop where
  f : m'.f = m.f
  u : m'.u = m.u
  ps : m'.ps = m.ps
  ts : ∃ q : List (Sp × Sp), m.ts = srtS (q.map Prod.fst) ∧ m'.ts = srtS (q.map Prod.snd) ∧ ∀ p ∈ q, OkSp p.1 ∧ InSp p.2 p.1
/-- A leg without pilots within the time of another one. -/
structure LgIn (x' x : Leg) : Prop where
  h : x'.h = x.h
  p : x'.p = 0
  t : InD x'.t x.t
  ok : okLeg x = true
theorem LgIn.sp {x' x : Leg} (h : LgIn x' x) : OkSp (lngS x.t) ∧ InSp (lngS x'.t) (lngS x.t) := ⟨lng_ok (okLeg_ok h.ok).1, h.t⟩
theorem ShrM.can {r : Rul} (hr : okRul r = true) {x x' : Leg} (hx : LgIn x' x) {m m' : Mb} (h : ShrM m m') (hc : canM r x m = true) : canM r x' m' = true := by
  obtain ⟨h1, h2⟩ := canM_win hc
  obtain ⟨q, e1, e2, hq⟩ := h.ts
  have h3 : winM m'.f m'.u x' = true := by
    have ht := hx.t
    unfold InD at ht
    unfold winM at h1 ⊢
    rw [decide_eq_true_eq] at h1 ⊢
    rw [h.f, h.u]
    omega
  unfold canM canB
  rw [h3, Bool.true_and, decide_eq_true_eq, e2, ← srtS_cons]
  rw [e1, ← srtS_cons] at h2
  exact brok_shrink hr (l := (lngS x.t, lngS x'.t) :: q) (fun p hp => by
    rcases List.mem_cons.1 hp with e | hp
    · rw [e]; exact hx.sp
    · exact hq p hp) h2
theorem ShrM.aft {r : Rul} {x x' : Leg} (hx : LgIn x' x) {m m' : Mb} (h : ShrM m m') (hc : canM r x m = true) (hc' : canM r x' m' = true) : ShrM (aftM x m) (aftM x' m') := by
  obtain ⟨q, e1, e2, hq⟩ := h.ts
  refine ⟨h.f, h.u, h.ps, (lngS x.t, lngS x'.t) :: q, by rw [aftM_ts hc, e1]; rfl, by rw [aftM_ts hc', e2]; rfl, fun p hp => ?_⟩
  rcases List.mem_cons.1 hp with e | hp
  · rw [e]; exact hx.sp
  · exact hq p hp
def LgsIn : List Leg → List Leg → Prop
  | [], [] => True
  | x' :: xs', x :: xs => LgIn x' x ∧ LgsIn xs' xs
  | _, _ => False
def ShrMs (ms ms' : List Mb) : Prop := ms'.length = ms.length ∧ ∀ i, i < ms.length → ShrM (nth ms i) (nth ms' i)
/-- A plan for some times is one for times within them. -/
theorem plan_shr {r : Rul} (hr : okRul r = true) : ∀ {xs xs' : List Leg} {ms ms' : List Mb} {p : List (List Nat)}, LgsIn xs' xs → ShrMs ms ms' → planOk r xs ms p → planOk r xs' ms' p
  | [], [], _, _, _, _, _, h => h
  | x :: xs, x' :: xs', ms, ms', p, hx, hm, h => by
    obtain ⟨ns, p', rfl, ht, hp⟩ := h
    have hc' : ∀ j ∈ ns, canM r x' (nth ms' j) = true := fun j hj => (hm.2 j (ht.asc.mem hj).2).can hr hx.1 (ht.can j hj)
    refine ⟨ns, p', rfl, ⟨by rw [ht.len, hx.1.h], by rw [hm.1]; exact ht.asc, hc', ?_⟩, plan_shr hr hx.2 ⟨by rw [aftN_len, aftN_len]; exact hm.1, fun i hi => ?_⟩ hp⟩
    · rw [hx.1.p]; have := (pltN_rng x' ms' ns).1; omega
    · rw [aftN_len] at hi
      rw [aftN_at ht.asc.nodup (fun k hk => (ht.asc.mem hk).2), aftN_at ht.asc.nodup (fun k hk => by rw [hm.1]; exact (ht.asc.mem hk).2)]
      by_cases c : i ∈ ns
      · rw [if_pos c, if_pos c]; exact (hm.2 i hi).aft hx.1 (ht.can i c) (hc' i c)
      · rw [if_neg c, if_neg c]; exact hm.2 i hi
  | [], _ :: _, _, _, _, h, _, _ => h.elim
  | _ :: _, [], _, _, _, h, _, _ => h.elim
/-- The times of the legs that a plan gives to a member. -/
def dnL (k : Nat) : List Leg → List (List Nat) → List Dty
  | x :: xs, ns :: p => (if k ∈ ns then [x.t] else []) ++ dnL k xs p
  | _, _ => []
theorem dn_keeps {r : Rul} {k : Nat} : ∀ {xs : List Leg} {ms : List Mb} {p : List (List Nat)} {D : List Dty}, k < ms.length → (nth ms k).ts = srtS (D.map lngS) → brokP r (nth ms k).ts = 0 → planOk r xs ms p → brokP r (srtS ((D ++ dnL k xs p).map lngS)) = 0
  | [], _, p, D, _, hD, hb, h => by
    have : dnL k [] p = [] := by cases p <;> rfl
    rw [this, List.append_nil, ← hD]; exact hb
  | x :: xs, ms, p, D, hk, hD, hb, h => by
    obtain ⟨ns, p', rfl, ht, hp⟩ := h
    have e := aftN_at (x := x) (j := k) ht.asc.nodup (fun j hj => (ht.asc.mem hj).2)
    show brokP r (srtS ((D ++ ((if k ∈ ns then [x.t] else []) ++ dnL k xs p')).map lngS)) = 0
    rw [← List.append_assoc]
    by_cases c : k ∈ ns
    · rw [if_pos c] at e ⊢
      have hc := ht.can k c
      have e2 : (nth (aftN x ns ms) k).ts = srtS ((D ++ [x.t]).map lngS) := by
        rw [e, aftM_ts hc, hD, ← srtS_cons]
        refine srt_of_perm ?_
        rw [List.map_append]
        exact List.perm_append_comm (l₁ := [lngS x.t])
      refine dn_keeps (by rw [aftN_len]; exact hk) e2 ?_ hp
      rw [e, aftM_ts hc]; exact (canM_win hc).2
    · rw [if_neg c] at e ⊢
      rw [List.append_nil]
      exact dn_keeps (by rw [aftN_len]; exact hk) (by rw [e]; exact hD) (by rw [e]; exact hb) hp
theorem brok_nil {r : Rul} : brokP r [] = 0 := by unfold brokP; simp [ovlP, shiftsP]
-- a team of members who have not worked yet
def teamS : List Slr → Prop := fun ss => ∀ s ∈ ss, s = ⟨0, 20160, [], []⟩
theorem teamS.ok {ss : List Slr} (h : teamS ss) : ∀ s ∈ ss, okSlr s = true := fun s hs => by rw [h s hs]; kernel_rfl
theorem teamS.at {ss : List Slr} (h : teamS ss) {i : Nat} (hi : i < ss.length) : nth (ss.map boardP) i = ⟨0, 20160, [], []⟩ := by
  rw [nth_map2 _ hi, h _ (nth_mem hi)]; rfl
theorem teamS.shr {ss : List Slr} (h : teamS ss) : ShrMs (ss.map boardP) (ss.map boardP) := ⟨rfl, fun i hi => by
  rw [List.length_map] at hi
  rw [h.at hi]; exact ⟨rfl, rfl, rfl, [], rfl, rfl, fun p hp => by cases hp⟩⟩
/-- What a plan says of legs with times within those for which it was made. -/
theorem crewed {r : Rul} {ss : List Slr} {xs xs' : List Leg} {q : List (List Int)} (hr : okRul r = true) (hs : teamS ss) (hx : LgsIn xs' xs) (_hl : ss.length ≤ 6) (_h0 : openE r ss xs = 0) (h1 : openE r ss xs' = 0) (h : (asgP r xs (ss.map boardP) 0 0).1 = some q) :
    ∃ p : List (List Nat), q = p.map castL ∧ p.length = xs.length ∧ planOk r xs (ss.map boardP) p ∧ planOk r xs' (ss.map boardP) p ∧ (∀ k, k < ss.length → brokP r (srtS ((dnL k xs' p).map lngS)) = 0) ∧ (asgP r xs' (ss.map boardP) 0 0).1 ≠ none ∧ verGo r xs' q (ss.map boardP) 0 = -1 := by
  obtain ⟨p, hp, rfl⟩ := asg_some h
  have hp' := plan_shr hr hx hs.shr hp
  refine ⟨p, rfl, planOk_len hp, hp, hp', fun k hk => ?_, fun e => asg_iff.1 e ⟨p, hp'⟩, ver_ok (p := p) (q := p) (fun x hx9 => ?_) hp' rfl (fun i _ => List.Perm.refl _)⟩
  · have := dn_keeps (D := []) (k := k) (by rw [List.length_map]; exact hk) (by rw [hs.at hk]; rfl) (by rw [hs.at hk]; exact brok_nil) hp'
    rwa [List.nil_append] at this
  · have := (openE_ok h1).2.2.2.2 x hx9
    unfold okLeg at this; rw [decide_eq_true_eq] at this; omega
/-- Some legs prove that there is no plan, and the last of them is not before the leg to which Plan comes. -/
theorem too_few {r : Rul} {ss : List Slr} {xs : List Leg} {l : List Int} {e : Int} (hr : okRul r = true) (h0 : openE r ss xs = 0) (h : (asgP r xs (ss.map boardP) 0 0).1 = none) (hS : ShortR r ss xs l e) :
    e = 0 ∧ 1 ≤ l.length ∧ ((asgP r xs (ss.map boardP) 0 0).2 : Int) ≤ nth l (l.length - 1) ∧ nth l (l.length - 1) < (xs.length : Int) ∧ l.length ≤ xs.length := by
  have hn : sfP r xs (ss.map boardP) = false := by unfold sfP; rw [h]; rfl
  obtain ⟨he, ns, rfl, hN⟩ := short_of hS h0 hn
  obtain ⟨_, _, hso, _, hxo⟩ := openE_ok h0
  have hne : 0 < ns.length := by
    rcases Nat.eq_zero_or_pos ns.length with c | c
    · have e9 := List.eq_nil_of_length_eq_zero c
      have h9 := hN.no
      rw [e9] at h9
      have : sfP r (pickN xs []) (ss.map boardP) = true := sf_iff.2 Fe_nil
      rw [this] at h9; cases h9
    · exact c
  have hu : Fe r (xs.take (asgP r xs (ss.map boardP) 0 0).2) (ss.map boardP) := by
    have h8 := (asg_at h).2.1
    exact Classical.byContradiction fun q => h8 (asg_iff.2 q)
  have h7 := short_last hr hso hxo hN hu
  have hcl : (castL ns).length = ns.length := List.length_map ..
  refine ⟨he, by rw [hcl]; exact hne, ?_, ?_, by rw [hcl]; exact hN.asc.len⟩
  · rw [hcl, nth_map2 _ (by omega)]; exact Int.ofNat_le.2 h7
  · rw [hcl, nth_map2 _ (by omega)]
    exact Int.ofNat_lt.2 (hN.asc.mem (nth_mem (by omega))).2

end Go.Proofs.YtclinbbghnebaaaGreat
namespace Go.Proofs.YtclinbbghnebaaaGreat
open Go Go.RowKit
set_option maxRecDepth 10000

/-- A run of a hectometer row: speeds and waiting. -/
structure Stp where
  lo : Int
  hi : Int
  c : Int
instance : Inhabited Stp := ⟨⟨default, default, default⟩⟩
def okStp (s : Stp) : Prop := (30 ≤ s.lo ∧ s.lo ≤ s.hi ∧ s.hi ≤ 100) ∧ (0 ≤ s.c ∧ s.c ≤ 255)
def rnS (j : Nat) (s : Stp) : Run := ⟨100 * (j : Int), 100 * (j : Int) + 100, ⟨s.lo, s.hi⟩, ⟨s.c, s.c⟩⟩
def rnL : Nat → List Stp → List Run
  | _, [] => []
  | j, s :: l => rnS j s :: rnL (j + 1) l
def nxB (t : Bnd) (s : Stp) : Bnd := ⟨t.lo + (s.c + tak 100 s.hi), t.hi + (s.c + tak 100 s.lo)⟩
/-- When the tow is at the beginning of run k. -/
def tmB (t : Bnd) : List Stp → Nat → Bnd
  | [], _ => t
  | _ :: _, 0 => t
  | s :: l, k + 1 => tmB (nxB t s) l k
theorem rnL_len : ∀ (j : Nat) (l : List Stp), (rnL j l).length = l.length
  | _, [] => rfl
  | j, _ :: l => by simp [rnL, rnL_len (j + 1) l]
theorem rnL_snoc : ∀ (j : Nat) (l : List Stp) (s : Stp), rnL j (l ++ [s]) = rnL j l ++ [rnS (j + l.length) s]
  | j, [], s => rfl
  | j, x :: l, s => by
    rw [List.cons_append, rnL, rnL, rnL_snoc (j + 1) l s, List.cons_append, List.length_cons, show j + 1 + l.length = j + (l.length + 1) by omega]
theorem arr_steps : ∀ {l : List Stp} {k j : Nat} {t : Bnd}, 0 < l.length → k ≤ l.length → arrGo (100 * ((j + k : Nat) : Int)) (rnL j l) t = tmB t l k
  | [], _, _, _, h, _ => absurd h (Nat.lt_irrefl 0)
  | s :: l, 0, j, t, _, _ => by
    show arrGo _ (rnS j s :: rnL (j + 1) l) t = t
    unfold arrGo
    rw [if_pos (show (rnS j s).frm = 100 * ((j + 0 : Nat) : Int) from rfl)]
  | s :: l, k + 1, j, t, _, hk => by
    have hf : (rnS j s).frm = 100 * (j : Int) := rfl
    have ht : (rnS j s).to = 100 * (j : Int) + 100 := rfl
    have hw : wayTo (rnS j s) (100 * ((j + (k + 1) : Nat) : Int)) = 100 := by
      unfold wayTo
      rw [hf, ht]
      split <;> omega
    show arrGo _ (rnS j s :: rnL (j + 1) l) t = tmB (nxB t s) l k
    unfold arrGo
    rw [hw, hf, if_neg (by omega)]
    by_cases c : k = 0
    · subst c
      rw [if_pos (by omega)]
      cases l <;> rfl
    · rw [List.length_cons] at hk
      rw [if_neg (by omega), show j + (k + 1) = (j + 1) + k by omega]
      exact arr_steps (by omega) (by omega)
theorem tmB_next : ∀ {l : List Stp} {k : Nat} {t : Bnd}, k < l.length → tmB t l (k + 1) = nxB (tmB t l k) (nth l k)
  | [], _, _, h => absurd h (Nat.not_lt_zero _)
  | [s], 0, t, _ => rfl
  | s :: x :: l, 0, t, _ => rfl
  | s :: l, k + 1, t, h => tmB_next (l := l) (by rw [List.length_cons] at h; omega)
theorem tak_100 {s : Int} (h : 30 ≤ s) : 0 ≤ tak 100 s ∧ tak 100 s ≤ 200 := by
  unfold tak
  refine ⟨Int.ediv_nonneg (by omega) (by omega), ?_⟩
  have : (60 * max 100 (-100) + s - 1) / s < 201 := Int.ediv_lt_of_lt_mul (by omega) (by omega)
  omega
/-- Faster takes no longer. -/
theorem tak_fast {s s' : Int} (h : 30 ≤ s) (hs : s ≤ s') : tak 100 s' ≤ tak 100 s := by
  have h0 := (tak_100 h).1
  have h1 : 60 * max 100 (-100) + s - 1 < (tak 100 s + 1) * s := by
    have := Int.lt_ediv_add_one_mul_self (60 * max 100 (-100) + s - 1) (show 0 < s by omega)
    exact this
  have h2 : 60 * max 100 (-100) + s' - 1 < (tak 100 s + 1) * s' := by
    have h3 : tak 100 s * s ≤ tak 100 s * s' := Int.mul_le_mul_of_nonneg_left hs h0
    rw [Int.add_mul] at h1 ⊢
    omega
  have : tak 100 s' < tak 100 s + 1 := Int.ediv_lt_of_lt_mul (by omega) h2
  omega
theorem tmB_rng {B : Int} {l : List Stp} {t : Bnd} (hl : ∀ s ∈ l, okStp s) (ht : 0 ≤ t.lo ∧ t.lo ≤ t.hi ∧ t.hi ≤ B) : ∀ k, k ≤ l.length → 0 ≤ (tmB t l k).lo ∧ (tmB t l k).lo ≤ (tmB t l k).hi ∧ (tmB t l k).hi ≤ B + 455 * (k : Int)
  | 0, _ => by
    have : tmB t l 0 = t := by cases l <;> rfl
    rw [this]; omega
  | k + 1, hk => by
    have ih := tmB_rng hl ht k (by omega)
    have hs := hl _ (nth_mem (xs := l) (i := k) (by omega))
    unfold okStp at hs
    have h1 := tak_100 (s := (nth l k).lo) (by omega)
    have h2 := tak_100 (s := (nth l k).hi) (by omega)
    have h3 := tak_fast (s := (nth l k).lo) (s' := (nth l k).hi) (by omega) (by omega)
    rw [tmB_next (by omega)]
    unfold nxB
    dsimp only
    omega
/-- Within the speeds the tow is there within the bounds. -/
theorem tmB_in {l l' : List Stp} {t t' : Bnd} (hn : l'.length = l.length) (hl : ∀ s ∈ l, okStp s) (hi : ∀ i, i < l.length → (nth l i).lo ≤ (nth l' i).lo ∧ (nth l' i).lo = (nth l' i).hi ∧ (nth l' i).hi ≤ (nth l i).hi ∧ (nth l' i).c = (nth l i).c) (ht : t.lo ≤ t'.lo ∧ t'.lo = t'.hi ∧ t'.hi ≤ t.hi) : ∀ k, k ≤ l.length → (tmB t l k).lo ≤ (tmB t' l' k).lo ∧ (tmB t' l' k).lo = (tmB t' l' k).hi ∧ (tmB t' l' k).hi ≤ (tmB t l k).hi
  | 0, _ => by
    have e1 : tmB t l 0 = t := by cases l <;> rfl
    have e2 : tmB t' l' 0 = t' := by cases l' <;> rfl
    rw [e1, e2]; exact ht
  | k + 1, hk => by
    have ih := tmB_in hn hl hi ht k (by omega)
    have hs := hl _ (nth_mem (xs := l) (i := k) (by omega))
    unfold okStp at hs
    obtain ⟨a1, a2, a3, a4⟩ := hi k (by omega)
    have h1 := tak_fast (s := (nth l k).lo) (s' := (nth l' k).lo) (by omega) a1
    have h2 := tak_fast (s := (nth l' k).hi) (s' := (nth l k).hi) (by omega) a3
    rw [tmB_next (by omega), tmB_next (by omega)]
    unfold nxB
    dsimp only
    rw [a2] at h1 ⊢
    omega
theorem okRuns_steps : ∀ {l : List Stp} {j : Nat}, (∀ s ∈ l, okStp s) → j + l.length ≤ 900 → okRuns 1 (100 * (j : Int)) (rnL j l) = true
  | [], _, _, _ => rfl
  | s :: l, j, h, hj => by
    rw [List.length_cons] at hj
    have hs := h s (by simp)
    unfold okStp at hs
    have e : okRuns 1 (100 * (j : Int) + 100) (rnL (j + 1) l) = true := by
      have := okRuns_steps (l := l) (j := j + 1) (fun x hx => h x (by simp [hx])) (by omega)
      rwa [show 100 * ((j + 1 : Nat) : Int) = 100 * (j : Int) + 100 by omega] at this
    show (okRun (100 * (j : Int)) 1 (rnS j s) && okRuns 1 (100 * (j : Int) + 100) (rnL (j + 1) l)) = true
    rw [e, Bool.and_true]
    unfold okRun rnS
    rw [decide_eq_true_eq]
    dsimp only
    refine ⟨by omega, rfl, by omega, ?_, ?_, ?_⟩
    · unfold sgn; rw [if_neg (by omega)]
    · omega
    · omega
def vyS (t : Bnd) (l : List Stp) : Voy := ⟨t, rnL 0 l, 90, 9⟩
theorem rnL_to : ∀ {l : List Stp} {j : Nat}, 0 < l.length → ((rnL j l).map (·.to)).getLastD 0 = 100 * ((j + l.length : Nat) : Int)
  | [], _, h => absurd h (Nat.lt_irrefl 0)
  | [s], j, _ => by show 100 * (j : Int) + 100 = 100 * ((j + 1 : Nat) : Int); omega
  | s :: x :: l, j, _ => by
    have := rnL_to (l := x :: l) (j := j + 1) (by simp)
    show ((rnL (j + 1) (x :: l)).map (·.to)).getLastD 0 = _
    rw [show (j + (s :: x :: l).length : Nat) = j + 1 + (x :: l).length by simp; omega, ← this]
theorem arr_vyS {t : Bnd} {l : List Stp} {k : Nat} (hl : ∀ s ∈ l, okStp s) (h0 : 0 < l.length) (hn : l.length ≤ 20) (ht : 0 ≤ t.lo ∧ t.lo ≤ t.hi ∧ t.hi ≤ 1000) (hk : k ≤ l.length) : ArrE (vyS t l) (100 * (k : Int)) = 0 ∧ ArrB (vyS t l) (100 * (k : Int)) = tmB t l k := by
  have hf : frst (vyS t l) = 0 := by
    cases l with
    | nil => exact absurd h0 (Nat.lt_irrefl 0)
    | cons s l => rfl
  have hls : lst (vyS t l) = 100 * (l.length : Int) := by
    have := rnL_to (l := l) (j := 0) h0
    rw [Nat.zero_add] at this
    exact this
  have h1 : okVoy (vyS t l) = true := by
    unfold okVoy
    rw [Bool.and_eq_true]
    constructor
    · unfold okVoy0 vyS
      rw [decide_eq_true_eq]
      dsimp only
      rw [rnL_len]
      omega
    · have hw : way0 (vyS t l) = 1 := by
        unfold way0
        rw [hf]
        cases l with
        | nil => exact absurd h0 (Nat.lt_irrefl 0)
        | cons s l => rfl
      rw [hw, hf]
      exact okRuns_steps (j := 0) hl (by omega)
  have h2 : onWay (vyS t l) [100 * (k : Int)] = true := by
    unfold onWay
    rw [decide_eq_true_eq, hf, hls]
    intro n hn
    rw [List.mem_singleton.1 hn]
    omega
  unfold ArrE ArrB
  rw [if_pos h1, if_pos h2, if_pos h1, if_pos h2]
  refine ⟨rfl, ?_⟩
  have := arr_steps (l := l) (k := k) (j := 0) (t := t) h0 hk
  rw [Nat.zero_add] at this
  exact this
-- the law's arguments
structure W3 where
  a : Int
  b : Int
  c : Int
instance : Inhabited W3 := ⟨⟨default, default, default⟩⟩
def encW3 (w : W3) : List Value := [.int .u8 w.a, .int .u8 w.b, .int .u8 w.c]
def okW3 (w : W3) : Prop := (0 ≤ w.a ∧ w.a ≤ 255) ∧ (0 ≤ w.b ∧ w.b ≤ 255) ∧ (0 ≤ w.c ∧ w.c ≤ 255)
def slowW (w : W3) : Int := 30 + w.a % 40
def fastW (w : W3) : Int := slowW w + w.b % 10
def midW (w : W3) : Int := slowW w + (fastW w - slowW w) / 2
def stV (w : W3) : Stp := ⟨slowW w, fastW w, w.c⟩
def stO (w : W3) : Stp := ⟨midW w, midW w, w.c⟩
theorem stV_ok {w : W3} (h : okW3 w) : okStp (stV w) := by unfold okW3 at h; unfold okStp stV fastW slowW; dsimp only; omega
theorem stO_ok {w : W3} (h : okW3 w) : okStp (stO w) := by unfold okW3 at h; unfold okStp stO midW fastW slowW; dsimp only; omega
theorem stO_in {w : W3} (_h : okW3 w) : (stV w).lo ≤ (stO w).lo ∧ (stO w).lo = (stO w).hi ∧ (stO w).hi ≤ (stV w).hi ∧ (stO w).c = (stV w).c := by
  unfold okW3 at _h; unfold stV stO midW fastW slowW; dsimp only; omega

end Go.Proofs.YtclinbbghnebaaaGreat
namespace Go.Proofs.YtclinbbghnebaaaGreat
open Go Go.RowKit Go.Proofs.Tryz
set_option maxRecDepth 10000
section
variable {P : Program} {ops : Array Oper} {Q : Exit → Act → World → Prop} {N : Nat} {ds : List Deferred} {rest : List Oper} {L : Slots} {w : World} {rd : Option Nat} {d : Nat} {ty : TypeId} {pos : String} {aft : Array Edge} {gd : Option (Nat × Bool)}
/-- A remainder whose value is known. -/
theorem t_remV {xt yt : TypeId} {x y : Operand} {m n : Int} (q : Int) (hg : grd ops L gd = true) (hN : Nat.blt d N = true) (hx : ev L x = some (.int .i64 m)) (hy : ev L y = some (.int .i64 n)) (hn : n ≠ 0) (hq : m.tmod n = q) (hr : -9223372036854775808 ≤ q ∧ q ≤ 9223372036854775807)
    (h : WL rd P ops Q N ds rest ((d, .int .i64 q) :: L) w) : WL rd P ops Q N ds (⟨some d, .binOp .rem xt x y yt, ty, pos, aft, gd⟩ :: rest) L w :=
  WL.value hg rfl hN (fun a ha => by
    have e1 := ha.ev hx
    have e2 := ha.ev hy
    have e3 : IntKind.i64.wrap (m.tmod n) = q := by rw [hq]; exact IntWalk.i64_in _ hr
    simp [execOp, e1, e2, eqGuard, binOp, Op.intDiv, hn, hq]) h
end
theorem own224 : Own Tryz.prog 224 := ⟨Tryz.f224, func224, by kernel_rfl, by kernel_rfl⟩
theorem own273 : Own Tryz.prog 273 := ⟨Tryz.f273, func273, by kernel_rfl, by kernel_rfl⟩
theorem own276 : Own Tryz.prog 276 := ⟨Tryz.f276, func276, by kernel_rfl, by kernel_rfl⟩

theorem rwithin1_c (lo hi n : Int) (b c : Nat) (t1 t2 : TypeId) (w0 : World) (hb : Blk w0 b t1 [.int .i64 lo]) (hc : Blk w0 c t2 [.int .i64 hi]) :
    CallsV Tryz.prog 273 [.int .i64 n, .pointer (some ⟨b, 0, none⟩), .pointer (some ⟨c, 0, none⟩)] w0 (fun v w' => v = .bool (out1 lo hi n) ∧ Ext w0 w') := by
 refine f_n func273 ?_
 refine go ?_
 refine t_splitp 8 rfl (fun g8 => ?_) (fun g8 => ?_)
 ·
  refine go ?_
  refine f_1 results273 ?_
  exact ⟨by simp [out1, *], u_d⟩
 refine go ?_
 refine f_1 results273 ?_
 exact ⟨by simp [out1, *], u_d⟩

theorem rwithin_c (lo hi : Int) (xs : List Int) (ao : Option Addr) (b o cap : Nat) (w0 : World) (hs : Sl encI 1 w0 ao b o xs) (hl : xs.length ≤ 1000000) :
    CallsV Tryz.prog 222 [.int .i64 lo, .int .i64 hi, .slice ao xs.length cap] w0 (fun v w' => v = .bool (decide (∀ n ∈ xs, lo ≤ n ∧ n ≤ hi)) ∧ Ext w0 w') := by
 refine f_n func222 ?_
 refine go ?_
 refine x_b fun bk2 w3 ebk2 sbk2 B4 u5 => ?_
 refine x_b fun bk7 w8 ebk7 sbk7 B9 u10 => ?_
 refine go ?_
 refine t_mkfunc (vs := []) (us := [.pointer (some ⟨bk2, 0, none⟩), .pointer (some ⟨bk7, 0, none⟩)]) rfl rfl rfl rfl ?_
 have B13 := (B4.kx u10)
 refine x_c func82 rfl rfl (containsI_c (out1 lo hi) 273 [.pointer (some ⟨bk2, 0, none⟩), .pointer (some ⟨bk7, 0, none⟩)] xs ao b o cap _ own273 (fun x _ w u => rwithin1_c lo hi x bk2 bk7 _ _ w (B13.keep u (fun h => h)) (B9.keep u (fun h => h))) (hs.keep (((Upd.refl (fun _ => False) w0).nx u5).nx u10) (fun _ h => h)) hl) ?_
 rintro _ w15 ⟨rfl, u16⟩ zu16
 refine go ?_
 refine f_1 results222 ?_
 exact ⟨by rw [not_any_out], u_d⟩

theorem rw1_t (lo hi m : Int) (b : Nat) (t : TypeId) (w : World) (h : Blk w b t [.int .i64 m]) (hr : (lo ≤ m ∧ m ≤ hi)) : CallsV Tryz.prog 222 [.int .i64 lo, .int .i64 hi, .slice (some ⟨b, 0, none⟩) 1 1] w (fun v w' => v = .bool true ∧ Ext w w') :=
  (rwithin_c lo hi [m] _ b 0 1 w (SlI.own (xs := [m]) h) (by simp)).mono fun v w' ⟨e, u⟩ => ⟨by rw [e]; simp; omega, u⟩

theorem rw2_t (lo hi m n : Int) (b : Nat) (t : TypeId) (w : World) (h : Blk w b t [.int .i64 m, .int .i64 n]) (hr : (lo ≤ m ∧ m ≤ hi) ∧ (lo ≤ n ∧ n ≤ hi)) : CallsV Tryz.prog 222 [.int .i64 lo, .int .i64 hi, .slice (some ⟨b, 0, none⟩) 2 2] w (fun v w' => v = .bool true ∧ Ext w w') :=
  (rwithin_c lo hi [m, n] _ b 0 2 w (SlI.own (xs := [m, n]) h) (by simp)).mono fun v w' ⟨e, u⟩ => ⟨by rw [e]; simp; omega, u⟩

structure Bnd2 where
  lo : Int
  hi : Int
instance : Inhabited Bnd2 := ⟨⟨default, default⟩⟩
def encBd2 (x : Bnd2) : List Value := [.int .i64 x.lo, .int .i64 x.hi]
def encRt (x : Bnd2) : List Value := [.int .i64 x.lo, .int .i64 x.hi]
def cvR : List Bnd2 := [⟨0, 100⟩, ⟨10000, 300⟩]

theorem indexBd_c {α : Type} [Inhabited α] (enc : α → List Value) (hk : ∀ x, (enc x).length = 2) (p : α → Bool) (fv : FuncId) (caps : List Value) (xs : List α) (ao : Option Addr) (b o cap : Nat) (w0 : World) (ho : Own Tryz.prog fv) (hp : ∀ x ∈ xs, ∀ w, Ext w0 w → CallsV Tryz.prog fv ([.agg (enc x).toArray] ++ caps) w fun v w' => v = .bool (p x) ∧ Ext w w') (hs : Sl enc 2 w0 ao b o xs) (hl : xs.length ≤ 1000000) :
    CallsV Tryz.prog 274 [.slice ao xs.length cap, .func (.func fv) #[] (caps).toArray] w0 (fun v w' => (∃ n : Int, v = .int .i64 n ∧ decide (0 ≤ n) = xs.any p) ∧ Ext w0 w') := by
 refine f_n func274 ?_
 refine go ?_
 refine x_l1 (fun _ => False) [0, 1, 7] (fun (k : Nat) => [(8, .int .i64 (k : Int))]) (fun k w => (k ≤ xs.length) ∧ ((xs.take k).any p = false)) (fun k => xs.length - k) 0 ⟨Nat.zero_le _, (by simp)⟩ ?_
 rintro k w5 ⟨hle, hnot⟩ u6 zu6 K4 hK4
 have E7 := Sc.mk ((Upd.refl (fun _ => False) w0).nx u6)
 refine go ?_
 refine q_p (fun g9 => ?_) fun g9 => ?_
 ·
  refine go ?_
  refine g_i k (hs.keep E7.u (fun _ h => h)) (fun _ => ?_)
  refine t_loadN (vs := enc (nth xs k)) isAgg28 sizeOf28 rfl rfl rfl ((hs.keep E7.u (fun _ h => h)).at_ k (by omega)) (hk _) (t_call (fs := []) (cs := caps) ho rfl rfl rfl rfl (hp (nth xs k) (nth_mem (by omega)) _ E7.u) (fun v14 w15 r17 => ?_))
  obtain ⟨rfl, u16⟩ := r17
  have zu16 := u16.size
  refine go ?_
  refine q_b (fun g16 => ?_) fun g16 => ?_
  ·
   refine go ?_
   refine f_1 results274 ?_
   exact ⟨⟨_, rfl, any_hit (by omega) g16⟩, u_d⟩
  refine go ?_
  exact hK4 (k + 1) ⟨(by omega), (any_snoc (by omega) hnot g16)⟩
 refine go ?_
 refine f_1 results274 ?_
 exact ⟨⟨_, rfl, any_none (by omega) hnot⟩, u_d⟩

theorem containsBd_c {α : Type} [Inhabited α] (enc : α → List Value) (hk : ∀ x, (enc x).length = 2) (p : α → Bool) (fv : FuncId) (caps : List Value) (xs : List α) (ao : Option Addr) (b o cap : Nat) (w0 : World) (ho : Own Tryz.prog fv) (hp : ∀ x ∈ xs, ∀ w, Ext w0 w → CallsV Tryz.prog fv ([.agg (enc x).toArray] ++ caps) w fun v w' => v = .bool (p x) ∧ Ext w w') (hs : Sl enc 2 w0 ao b o xs) (hl : xs.length ≤ 1000000) :
    CallsV Tryz.prog 223 [.slice ao xs.length cap, .func (.func fv) #[] (caps).toArray] w0 (fun v w' => v = .bool (xs.any p) ∧ Ext w0 w') := by
 refine f_n func223 ?_
 refine go ?_
 refine x_c func274 rfl rfl (indexBd_c enc hk p fv caps xs ao b o cap _ ho hp hs hl) ?_
 rintro _ w4 ⟨⟨n, rfl, hn⟩, u5⟩ zu5
 refine go ?_
 refine f_1 results223 ?_
 exact ⟨by rw [hn], u_d⟩

theorem rvalid1_c (lo hi a b : Int) (p q : Nat) (t1 t2 : TypeId) (w0 : World) (hb : Blk w0 p t1 [.int .i64 lo]) (hc : Blk w0 q t2 [.int .i64 hi]) (hr : a ≤ b ∧ (lo ≤ a ∧ a ≤ hi) ∧ (lo ≤ b ∧ b ≤ hi)) :
    CallsV Tryz.prog 224 [.agg #[.int .i64 a, .int .i64 b], .pointer (some ⟨p, 0, none⟩), .pointer (some ⟨q, 0, none⟩)] w0 (fun v w' => v = .bool false ∧ Ext w0 w') := by
 refine f_n func224 ?_
 refine go ?_
 refine x_b fun bk2 w3 ebk2 sbk2 B4 u5 => ?_
 iterate 10 refine st1 ?_
 refine t_same 9 (v := .bool false) rfl (congrArg Value.bool (decide_eq_false (by omega))) ?_
 refine go ?_
 refine x_l fun bk8 w9 ebk8 sbk8 B10 u11 => ?_
 refine x_c func222 rfl rfl (rw2_t lo hi a b _ _ _ B10 (by omega)) ?_
 rintro _ w14 ⟨rfl, u15⟩ zu15
 refine go ?_
 refine f_1 results224 ?_
 exact ⟨rfl, u_d⟩

theorem rvalid_c (lo hi a b : Int) (g : Nat) (w0 : World) (hs : Blk w0 g 28 [.int .i64 a, .int .i64 b]) (hr : a ≤ b ∧ (lo ≤ a ∧ a ≤ hi) ∧ (lo ≤ b ∧ b ≤ hi)) :
    CallsV Tryz.prog 177 [.int .i64 lo, .int .i64 hi, .slice (some ⟨g, 0, none⟩) 1 1] w0 (fun v w' => v = .bool true ∧ Ext w0 w') := by
 have hx : Sl encBd2 2 w0 (some ⟨g, 0, none⟩) g 0 [⟨a, b⟩] := Sl.ofBlk (enc := encBd2) (xs := [⟨a, b⟩]) (fun _ => rfl) hs
 refine f_n func177 ?_
 refine go ?_
 refine x_b fun bk2 w3 ebk2 sbk2 B4 u5 => ?_
 refine x_b fun bk7 w8 ebk7 sbk7 B9 u10 => ?_
 refine go ?_
 refine t_mkfunc (vs := []) (us := [.pointer (some ⟨bk2, 0, none⟩), .pointer (some ⟨bk7, 0, none⟩)]) rfl rfl rfl rfl ?_
 have B13 := (B4.kx u10)
 have hc9 := containsBd_c encBd2 (fun _ => rfl) (fun _ => false) 224 [.pointer (some ⟨bk2, 0, none⟩), .pointer (some ⟨bk7, 0, none⟩)] [⟨a, b⟩] (some ⟨g, 0, none⟩) g 0 1 w8 own224 (fun x hx w u => by
   obtain rfl := List.mem_singleton.1 hx
   exact rvalid1_c lo hi a b bk2 bk7 _ _ w (B13.keep u (fun h => h)) (B9.keep u (fun h => h)) hr) (hx.keep (((Upd.refl (fun _ => False) w0).nx u5).nx u10) (fun _ h => h)) (by simp)
 refine x_c func223 rfl rfl hc9 ?_
 rintro _ w15 ⟨rfl, u16⟩ zu16
 refine go ?_
 refine f_1 results177 ?_
 exact ⟨rfl, u_d⟩

theorem rcheck_c (dl bl bh fl : Int) (g : Nat) (w0 : World) (hcv : Sl encRt 2 w0 (some ⟨g, 0, none⟩) g 0 cvR) (hd : 0 ≤ dl ∧ dl ≤ 200) (hb : bl ≤ bh ∧ (0 ≤ bl ∧ bl ≤ 10000000000) ∧ (0 ≤ bh ∧ bh ≤ 10000000000)) (hf : 0 ≤ fl ∧ fl ≤ 10000) :
    CallsV Tryz.prog 176 [.agg #[.int .i64 100, .int .i64 dl, .int .i64 bl, .int .i64 bh, .slice (some ⟨g, 0, none⟩) 2 2, .int .i64 0, .int .i64 50, .int .i64 60, .int .i64 fl]] w0 (fun v w' => v = .int .i64 0 ∧ Ext w0 w') := by
 refine f_n func176 ?_
 refine go ?_
 refine x_b fun bk2 w3 ebk2 sbk2 B4 u5 => ?_
 refine go ?_
 refine x_l fun bk10 w11 ebk10 sbk10 B12 u13 => ?_
 refine x_c func222 rfl rfl (rw1_t 1 5000 100 _ _ _ B12 (by omega)) ?_
 rintro _ w16 ⟨rfl, u17⟩ zu17
 refine go ?_
 refine x_l fun bk20 w21 ebk20 sbk20 B22 u23 => ?_
 refine x_c func222 rfl rfl (rw1_t 0 200 dl _ _ _ B22 (by omega)) ?_
 rintro _ w26 ⟨rfl, u27⟩ zu27
 refine go ?_
 refine x_l fun bk30 w31 ebk30 sbk30 B32 u33 => ?_
 refine x_c func177 rfl rfl (rvalid_c 0 10000000000 bl bh bk30 _ B32 (by omega)) ?_
 rintro _ w36 ⟨rfl, u37⟩ zu37
 refine go ?_
 refine x_l fun bk40 w41 ebk40 sbk40 B42 u43 => ?_
 refine x_c func222 rfl rfl (rw1_t 2 30 2 _ _ _ B42 (by omega)) ?_
 rintro _ w46 ⟨rfl, u47⟩ zu47
 refine go ?_
 refine x_l fun bk50 w51 ebk50 sbk50 B52 u53 => ?_
 refine x_c func222 rfl rfl (rw2_t 0 10000 0 fl _ _ _ B52 (by omega)) ?_
 rintro _ w56 ⟨rfl, u57⟩ zu57
 refine go ?_
 refine x_l fun bk60 w61 ebk60 sbk60 B62 u63 => ?_
 refine x_c func177 rfl rfl (rvalid_c 0 10000 50 60 bk60 _ B62 (by omega)) ?_
 rintro _ w66 ⟨rfl, u67⟩ zu67
 refine go ?_
 refine x_n fun bk71 w72 ebk71 sbk71 B73 u74 => ?_
 refine x_s fun w76 sw76 B78 u77 => ?_
 have E79 := Sc.mk ((((((((((((((((Upd.refl (fun _ => False) w0).nx u5).nx u13).nx u17).nx u23).nx u27).nx u33).nx u37).nx u43).nx u47).nx u53).nx u57).nx u63).nx u67).nx u74).next u77 (fun i hi h => by omega))
 refine go ?_
 refine c_rounds 3 (WR.weak [(4, .pointer (some ⟨bk71, 0, none⟩)), (53, .slice (some ⟨g, 0, none⟩) 2 2), (54, .int .i64 2), (55, .int .i64 0)] ⟨rfl, rfl, rfl, rfl, trivial⟩ (r_round fun K82 hK82 => (q_of ?_)))
 refine go ?_
 have i87 : 0 < cvR.length := (by decide)
 refine g_i 0 (hcv.keep E79.u (fun _ h => h)) (fun _ => ?_)
 refine st1 ?_
 refine t_same 58 (v := .agg #[.int .i64 0, .int .i64 100]) rfl rfl ?_
 refine x_n fun bk88 w89 ebk88 sbk88 B90 u91 => ?_
 refine x_s fun w93 sw93 B95 u94 => ?_
 refine go ?_
 refine x_l fun bk99 w100 ebk99 sbk99 B101 u102 => ?_
 refine x_c func222 rfl rfl (rw1_t (-1 + 1) 10000000000 0 _ _ _ B101 (by omega)) ?_
 rintro _ w105 ⟨rfl, u106⟩ zu106
 refine go ?_
 refine x_l fun bk109 w110 ebk109 sbk109 B111 u112 => ?_
 refine x_c func222 rfl rfl (rw1_t 0 10000 100 _ _ _ B111 (by omega)) ?_
 rintro _ w115 ⟨rfl, u116⟩ zu116
 refine go ?_
 refine x_s fun w119 sw119 B121 u120 => ?_
 refine go ?_
 refine hK82 _ _ (WR.weak [(4, .pointer (some ⟨bk71, 0, none⟩)), (53, .slice (some ⟨g, 0, none⟩) 2 2), (54, .int .i64 2), (55, .int .i64 1)] ⟨rfl, rfl, rfl, rfl, trivial⟩ (r_round fun K123 hK123 => (q_of ?_)))
 refine go ?_
 have i128 : 1 < cvR.length := (by decide)
 refine g_i 1 (hcv.keep (((((((E79.u.nx u91).next u94 (fun i hi h => by omega)).nx u102).nx u106).nx u112).nx u116).next u120 (fun i hi h => by omega)) (fun _ h => h)) (fun _ => ?_)
 refine st1 ?_
 refine t_same 58 (v := .agg #[.int .i64 10000, .int .i64 300]) rfl rfl ?_
 refine x_n fun bk129 w130 ebk129 sbk129 B131 u132 => ?_
 refine x_s fun w134 sw134 B136 u135 => ?_
 refine go ?_
 refine x_l fun bk140 w141 ebk140 sbk140 B142 u143 => ?_
 refine x_c func222 rfl rfl (rw1_t 1 10000000000 10000 _ _ _ B142 (by omega)) ?_
 rintro _ w146 ⟨rfl, u147⟩ zu147
 refine go ?_
 refine x_l fun bk150 w151 ebk150 sbk150 B152 u153 => ?_
 refine x_c func222 rfl rfl (rw1_t 100 10000 300 _ _ _ B152 (by omega)) ?_
 rintro _ w156 ⟨rfl, u157⟩ zu157
 refine go ?_
 refine x_s fun w160 sw160 B162 u161 => ?_
 refine go ?_
 refine hK123 _ _ (WR.weak [(4, .pointer (some ⟨bk71, 0, none⟩)), (53, .slice (some ⟨g, 0, none⟩) 2 2), (54, .int .i64 2), (55, .int .i64 2)] ⟨rfl, rfl, rfl, rfl, trivial⟩ (r_round fun K164 hK164 => (q_of ?_)))
 refine go ?_
 refine f_1 results176 ?_
 exact ⟨rfl, u_d⟩

theorem down1_c  (w0 : World) :
    CallsV Tryz.prog 226 [.int .i64 400000, .int .i64 10000] w0 (fun v w' => v = .int .i64 40 ∧ Ext w0 w') := by
 refine f_n func226 ?_
 refine go ?_
 refine c_drawnM follows (fun _ => False) (OTl [0, 2, 4, 6, 8, 10, 12, 14]) (by kernel_rfl) fun w3 u4 => ?_
 have zu4 := u4.size
 refine go ?_
 refine y_quo rfl rfl rfl rfl (by omega) (by omega) (y_same 9 (v := .int .i64 40) rfl rfl ?_)
 refine go ?_
 refine y_rem rfl rfl rfl rfl (by omega) (by omega) (y_same 12 (v := .int .i64 0) rfl rfl ?_)
 refine go ?_
 refine f_1 results226 ?_
 exact ⟨rfl, u_d⟩

theorem down2_c  (w0 : World) :
    CallsV Tryz.prog 226 [.int .i64 (-600000), .int .i64 10000] w0 (fun v w' => v = .int .i64 (-60) ∧ Ext w0 w') := by
 refine f_n func226 ?_
 refine go ?_
 refine c_drawnM follows (fun _ => False) (.look 0 (.look 1 (.look 3 (.look 4 (.act 2 (.look 6 (.act 5 (.look 7 .done) .stop)) (.act 5 (.act 2 (.look 6 (.look 7 .done)) .stop) .stop)))))) (by kernel_rfl) fun w3 u4 => ?_
 have zu4 := u4.size
 refine go ?_
 refine s_or ?_ ?_
 ·
  refine go ?_
  refine t_quoV (-60) rfl rfl rfl rfl (by decide) (by decide) (by decide) ?_
  refine go ?_
  refine t_remV 0 rfl rfl rfl rfl (by decide) (by decide) (by decide) ?_
  refine go ?_
  refine f_1 results226 ?_
  exact ⟨rfl, u_d⟩
 refine go ?_
 refine t_remV 0 rfl rfl rfl rfl (by decide) (by decide) (by decide) ?_
 refine go ?_
 refine t_quoV (-60) rfl rfl rfl rfl (by decide) (by decide) (by decide) ?_
 refine go ?_
 refine f_1 results226 ?_
 exact ⟨rfl, u_d⟩

theorem up_c  (w0 : World) :
    CallsV Tryz.prog 227 [.int .i64 600000, .int .i64 10000] w0 (fun v w' => v = .int .i64 60 ∧ Ext w0 w') := by
 refine f_n func227 ?_
 refine go ?_
 refine t_neg rfl rfl rfl (by omega) (t_same 6 (v := .int .i64 (-600000)) rfl rfl ?_)
 refine go ?_
 refine x_c func226 rfl rfl (down2_c _) ?_
 rintro _ w4 ⟨rfl, u5⟩ zu5
 refine t_neg rfl rfl rfl (by omega) (t_same 9 (v := .int .i64 60) rfl rfl ?_)
 refine go ?_
 refine f_1 results227 ?_
 exact ⟨rfl, u_d⟩

theorem at1_c (i : Nat) (fl : Int) (g p q : Nat) (w0 : World) (hi : i < 2) (hcv : Sl encRt 2 w0 (some ⟨g, 0, none⟩) g 0 cvR) (hp : Blk w0 p 252 [.slice (some ⟨g, 0, none⟩) 2 2]) (hq : Blk w0 q 3 [.int .i64 fl]) :
    CallsV Tryz.prog 276 [.int .i64 (i : Int), .pointer (some ⟨p, 0, none⟩), .pointer (some ⟨q, 0, none⟩)] w0 (fun v w' => v = .bool (decide (fl < (nth cvR i).lo)) ∧ Ext w0 w') := by
 refine f_n func276 ?_
 refine go ?_
 refine c_drawnM follows (fun _ => False) (OTl [0, 2, 4, 6, 8, 10, 12, 14]) (by kernel_rfl) fun w3 u4 => ?_
 have zu4 := u4.size
 refine go ?_
 have i6 : i < cvR.length := hi
 refine y_i i (hcv.keep ((Upd.refl (fun _ => False) w0).nx u4) (fun _ h => h)) (fun _ => ?_)
 refine go ?_
 refine f_1 results276 ?_
 exact ⟨rfl, u_d⟩

theorem at_r {fl r : Int} (hf : 0 ≤ fl ∧ fl < 10000) (h0 : 0 ≤ r) (h1 : r ≤ 2) (h2 : 0 < r → decide (fl < (nth cvR (r - 1).toNat).lo) = false) (h3 : r < 2 → decide (fl < (nth cvR r.toNat).lo) = true) : r = 1 := by
  have e : r = 0 ∨ r = 1 ∨ r = 2 := by omega
  rcases e with rfl | rfl | rfl
  · have := of_decide_eq_true (h3 (by decide))
    have e9 : (nth cvR (0 : Int).toNat).lo = 0 := rfl
    omega
  · rfl
  · have := of_decide_eq_false (h2 (by decide))
    have e9 : (nth cvR ((2 : Int) - 1).toNat).lo = 10000 := rfl
    omega
theorem atS_c (fl : Int) (g p q : Nat) (w : World) (hf : 0 ≤ fl ∧ fl < 10000) (hcv : Sl encRt 2 w (some ⟨g, 0, none⟩) g 0 cvR) (hp : Blk w p 252 [.slice (some ⟨g, 0, none⟩) 2 2]) (hq : Blk w q 3 [.int .i64 fl]) :
    CallsV Tryz.prog 275 [.int .i64 2, .func (.func 276) #[] #[.pointer (some ⟨p, 0, none⟩), .pointer (some ⟨q, 0, none⟩)]] w (fun v w' => v = .int .i64 1 ∧ Ext w w') :=
  (search_c 2 (fun x => decide (fl < (nth cvR x.toNat).lo)) 276 [.pointer (some ⟨p, 0, none⟩), .pointer (some ⟨q, 0, none⟩)] w (by decide) own276 (fun x hx W u => by
    obtain ⟨i, rfl⟩ : ∃ i : Nat, x = (i : Int) := ⟨x.toNat, by omega⟩
    exact at1_c i fl g p q W (by omega) (hcv.keep u (fun _ h => h)) (hp.keep u (fun h => h)) (hq.keep u (fun h => h)))).mono fun v w' ⟨⟨r, e, h0, h1, h2, h3⟩, u⟩ => ⟨by rw [e, at_r hf h0 h1 h2 h3], u⟩

theorem at_c1 (g : Nat) (w0 : World) (hcv : Sl encRt 2 w0 (some ⟨g, 0, none⟩) g 0 cvR) :
    CallsV Tryz.prog 225 [.slice (some ⟨g, 0, none⟩) 2 2, .int .i64 2000, .func (.func 226) #[] #[]] w0 (fun v w' => v = .int .i64 140 ∧ Ext w0 w') := by
 refine f_n func225 ?_
 refine go ?_
 refine x_b fun bk2 w3 ebk2 sbk2 B4 u5 => ?_
 refine x_b fun bk7 w8 ebk7 sbk7 B9 u10 => ?_
 have E11 := Sc.mk (((Upd.refl (fun _ => False) w0).nx u5).nx u10)
 refine go ?_
 refine t_mkfunc (vs := []) (us := [.pointer (some ⟨bk2, 0, none⟩), .pointer (some ⟨bk7, 0, none⟩)]) rfl rfl rfl rfl ?_
 have B13 := (B4.kx u10)
 refine x_c func275 rfl rfl (atS_c 2000 g bk2 bk7 _ (by omega) (hcv.keep E11.u (fun _ h => h)) B13 B9) ?_
 rintro _ w15 ⟨rfl, u16⟩ zu16
 refine go ?_
 refine c_drawnM follows (fun _ => False) (.look 0 (.look 1 (.look 2 (.look 3 (.look 4 (.look 5 (.look 6 (.look 7 (.look 8 (.act 9 (.act 10 (.act 11 (.act 12 .done .stop) .stop) .stop) (.act 10 (.act 9 (.act 11 (.act 12 .done .stop) .stop) .stop) .stop))))))))))) (by kernel_rfl) fun w24 u25 => ?_
 have zu25 := u25.size
 have E26 := Sc.mk ((E11.u.nx u16).nx u25)
 refine go ?_
 have i27 : 0 < cvR.length := (by decide)
 refine y_i 0 (hcv.keep E26.u (fun _ h => h)) (fun _ => ?_)
 refine st1 ?_
 refine y_same 35 (v := .agg #[.int .i64 0, .int .i64 100]) rfl rfl ?_
 refine go ?_
 have i28 : 1 < cvR.length := (by decide)
 refine y_i 1 (hcv.keep E26.u (fun _ h => h)) (fun _ => ?_)
 refine st1 ?_
 refine y_same 39 (v := .agg #[.int .i64 10000, .int .i64 300]) rfl rfl (s_or ?_ ?_)
 ·
  refine go ?_
  refine x_n fun bk29 w30 ebk29 sbk29 B31 u32 => ?_
  refine go ?_
  refine x_n fun bk34 w35 ebk34 sbk34 B36 u37 => ?_
  refine go ?_
  refine x_s fun w39 sw39 B41 u40 => ?_
  refine go ?_
  refine x_s fun w43 sw43 B45 u44 => ?_
  refine go ?_
  refine c_drawnM follows (fun _ => False) (OTl [0, 2, 4, 6, 8, 10, 12, 14, 16, 18, 20, 22, 24, 26, 28, 30, 32, 34, 37, 38, 40]) (by kernel_rfl) fun w48 u49 => ?_
  have zu49 := u49.size
  refine go ?_
  refine x_c func226 rfl rfl (down1_c _) ?_
  rintro _ w52 ⟨rfl, u53⟩ zu53
  refine go ?_
  refine f_1 results225 ?_
  exact ⟨rfl, u_d⟩
 refine go ?_
 refine x_n fun bk56 w57 ebk56 sbk56 B58 u59 => ?_
 refine go ?_
 refine x_n fun bk61 w62 ebk61 sbk61 B63 u64 => ?_
 refine go ?_
 refine x_s fun w66 sw66 B68 u67 => ?_
 refine go ?_
 refine x_s fun w70 sw70 B72 u71 => ?_
 refine go ?_
 refine c_drawnM follows (fun _ => False) (OTl [0, 2, 4, 6, 8, 10, 12, 14, 16, 18, 20, 22, 24, 26, 28, 30, 32, 34, 37, 38, 40]) (by kernel_rfl) fun w75 u76 => ?_
 have zu76 := u76.size
 refine go ?_
 refine x_c func226 rfl rfl (down1_c _) ?_
 rintro _ w79 ⟨rfl, u80⟩ zu80
 refine go ?_
 refine f_1 results225 ?_
 exact ⟨rfl, u_d⟩

theorem at_c2 (g : Nat) (w0 : World) (hcv : Sl encRt 2 w0 (some ⟨g, 0, none⟩) g 0 cvR) :
    CallsV Tryz.prog 225 [.slice (some ⟨g, 0, none⟩) 2 2, .int .i64 3000, .func (.func 227) #[] #[]] w0 (fun v w' => v = .int .i64 160 ∧ Ext w0 w') := by
 refine f_n func225 ?_
 refine go ?_
 refine x_b fun bk2 w3 ebk2 sbk2 B4 u5 => ?_
 refine x_b fun bk7 w8 ebk7 sbk7 B9 u10 => ?_
 have E11 := Sc.mk (((Upd.refl (fun _ => False) w0).nx u5).nx u10)
 refine go ?_
 refine t_mkfunc (vs := []) (us := [.pointer (some ⟨bk2, 0, none⟩), .pointer (some ⟨bk7, 0, none⟩)]) rfl rfl rfl rfl ?_
 have B13 := (B4.kx u10)
 refine x_c func275 rfl rfl (atS_c 3000 g bk2 bk7 _ (by omega) (hcv.keep E11.u (fun _ h => h)) B13 B9) ?_
 rintro _ w15 ⟨rfl, u16⟩ zu16
 refine go ?_
 refine c_drawnM follows (fun _ => False) (.look 0 (.look 1 (.look 2 (.look 3 (.look 4 (.look 5 (.look 6 (.look 7 (.look 8 (.act 9 (.act 10 (.act 11 (.act 12 .done .stop) .stop) .stop) (.act 10 (.act 9 (.act 11 (.act 12 .done .stop) .stop) .stop) .stop))))))))))) (by kernel_rfl) fun w24 u25 => ?_
 have zu25 := u25.size
 have E26 := Sc.mk ((E11.u.nx u16).nx u25)
 refine go ?_
 have i27 : 0 < cvR.length := (by decide)
 refine y_i 0 (hcv.keep E26.u (fun _ h => h)) (fun _ => ?_)
 refine st1 ?_
 refine y_same 35 (v := .agg #[.int .i64 0, .int .i64 100]) rfl rfl ?_
 refine go ?_
 have i28 : 1 < cvR.length := (by decide)
 refine y_i 1 (hcv.keep E26.u (fun _ h => h)) (fun _ => ?_)
 refine st1 ?_
 refine y_same 39 (v := .agg #[.int .i64 10000, .int .i64 300]) rfl rfl (s_or ?_ ?_)
 ·
  refine go ?_
  refine x_n fun bk29 w30 ebk29 sbk29 B31 u32 => ?_
  refine go ?_
  refine x_n fun bk34 w35 ebk34 sbk34 B36 u37 => ?_
  refine go ?_
  refine x_s fun w39 sw39 B41 u40 => ?_
  refine go ?_
  refine x_s fun w43 sw43 B45 u44 => ?_
  refine go ?_
  refine c_drawnM follows (fun _ => False) (OTl [0, 2, 4, 6, 8, 10, 12, 14, 16, 18, 20, 22, 24, 26, 28, 30, 32, 34, 37, 38, 40]) (by kernel_rfl) fun w48 u49 => ?_
  have zu49 := u49.size
  refine go ?_
  refine x_c func227 rfl rfl (up_c _) ?_
  rintro _ w52 ⟨rfl, u53⟩ zu53
  refine go ?_
  refine f_1 results225 ?_
  exact ⟨rfl, u_d⟩
 refine go ?_
 refine x_n fun bk56 w57 ebk56 sbk56 B58 u59 => ?_
 refine go ?_
 refine x_n fun bk61 w62 ebk61 sbk61 B63 u64 => ?_
 refine go ?_
 refine x_s fun w66 sw66 B68 u67 => ?_
 refine go ?_
 refine x_s fun w70 sw70 B72 u71 => ?_
 refine go ?_
 refine c_drawnM follows (fun _ => False) (OTl [0, 2, 4, 6, 8, 10, 12, 14, 16, 18, 20, 22, 24, 26, 28, 30, 32, 34, 37, 38, 40]) (by kernel_rfl) fun w75 u76 => ?_
 have zu76 := u76.size
 refine go ?_
 refine x_c func227 rfl rfl (up_c _) ?_
 rintro _ w79 ⟨rfl, u80⟩ zu80
 refine go ?_
 refine f_1 results225 ?_
 exact ⟨rfl, u_d⟩

theorem rlevel_c (dl bl bh fl : Int) (g : Nat) (w0 : World) (hcv : Sl encRt 2 w0 (some ⟨g, 0, none⟩) g 0 cvR) :
    CallsV Tryz.prog 178 [.agg #[.int .i64 100, .int .i64 dl, .int .i64 bl, .int .i64 bh, .slice (some ⟨g, 0, none⟩) 2 2, .int .i64 0, .int .i64 50, .int .i64 60, .int .i64 fl], .agg #[.int .i64 2000, .int .i64 3000]] w0 (fun v w' => v = .agg #[.int .i64 140, .int .i64 160] ∧ Ext w0 w') := by
 refine f_n func178 ?_
 refine go ?_
 refine x_b fun bk2 w3 ebk2 sbk2 B4 u5 => ?_
 refine x_b fun bk7 w8 ebk7 sbk7 B9 u10 => ?_
 refine x_n fun bk12 w13 ebk12 sbk12 B14 u15 => ?_
 refine go ?_
 refine c_drawnM follows (fun i => i = bk12) (OTl [0, 2, 4, 6, 8, 10, 16, 18, 20, 22, 24, 26, 13, 14, 29, 30, 32, 35]) (by kernel_rfl) fun w18 u19 => ?_
 have zu19 := u19.size
 have E20 := Sc.mk (((((Upd.refl (fun _ => False) w0).nx u5).nx u10).nx u15).nx u19)
 refine go ?_
 refine x_c func225 rfl rfl (at_c1 g _ (hcv.keep E20.u (fun _ h => h))) ?_
 rintro _ w22 ⟨rfl, u23⟩ zu23
 refine go ?_
 refine y_max rfl rfl rfl rfl (y_same 12 (v := .int .i64 140) rfl rfl ?_)
 refine go ?_
 refine x_c func225 rfl rfl (at_c2 g _ (hcv.keep (E20.u.nx u23) (fun _ h => h))) ?_
 rintro _ w27 ⟨rfl, u28⟩ zu28
 refine go ?_
 refine y_max rfl rfl rfl rfl (y_same 20 (v := .int .i64 160) rfl rfl ?_)
 refine go ?_
 refine x_s fun w31 sw31 B33 u32 => ?_
 refine go ?_
 refine f_ret1 (v := .agg #[.int .i64 140, .int .i64 160]) results178 ⟨_, _, rfl, run_loadVarN (vs := [.int .i64 140, .int .i64 160]) isAgg28 sizeOf28 rfl (B33.at.sub 0 2)⟩ ?_
 exact ⟨rfl, u_d⟩

theorem Level_c (dl bl bh fl : Int) (g : Nat) (w0 : World) (hcv : Sl encRt 2 w0 (some ⟨g, 0, none⟩) g 0 cvR) (hd : 0 ≤ dl ∧ dl ≤ 200) (hb : bl ≤ bh ∧ (0 ≤ bl ∧ bl ≤ 10000000000) ∧ (0 ≤ bh ∧ bh ≤ 10000000000)) (hf : 0 ≤ fl ∧ fl ≤ 10000) :
    CallsV Tryz.prog 109 [.agg #[.int .i64 100, .int .i64 dl, .int .i64 bl, .int .i64 bh, .slice (some ⟨g, 0, none⟩) 2 2, .int .i64 0, .int .i64 50, .int .i64 60, .int .i64 fl], .agg #[.int .i64 2000, .int .i64 3000]] w0 (fun v w' => v = .tuple #[.agg #[.int .i64 140, .int .i64 160], .int .i64 0] ∧ Ext w0 w') := by
 refine f_n func109 ?_
 refine go ?_
 refine x_b fun bk2 w3 ebk2 sbk2 B4 u5 => ?_
 refine x_b fun bk7 w8 ebk7 sbk7 B9 u10 => ?_
 refine x_n fun bk12 w13 ebk12 sbk12 B14 u15 => ?_
 have E16 := Sc.mk ((((Upd.refl (fun _ => False) w0).nx u5).nx u10).nx u15)
 refine go ?_
 refine x_c func176 rfl rfl (rcheck_c dl bl bh fl g _ (hcv.keep E16.u (fun _ h => h)) hd hb hf) ?_
 rintro _ w20 ⟨rfl, u21⟩ zu21
 refine go ?_
 refine x_l fun bk25 w26 ebk25 sbk25 B27 u28 => ?_
 refine x_c func177 rfl rfl (rvalid_c 0 210000000000 2000 3000 bk25 _ B27 (by omega)) ?_
 rintro _ w31 ⟨rfl, u32⟩ zu32
 refine go ?_
 refine x_c func178 rfl rfl (rlevel_c dl bl bh fl g _ (hcv.keep (((E16.u.nx u21).nx u28).nx u32) (fun _ h => h))) ?_
 rintro _ w37 ⟨rfl, u38⟩ zu38
 refine x_s fun w41 sw41 B43 u42 => ?_
 refine go ?_
 refine f_ret2 (v1 := .agg #[.int .i64 140, .int .i64 160]) (v2 := .int .i64 0) results109 ⟨_, _, rfl, run_loadVarN (vs := [.int .i64 140, .int .i64 160]) isAgg28 sizeOf28 rfl (B43.at.sub 0 2)⟩ rfl ?_
 exact ⟨rfl, u_d⟩

end Go.Proofs.YtclinbbghnebaaaGreat
