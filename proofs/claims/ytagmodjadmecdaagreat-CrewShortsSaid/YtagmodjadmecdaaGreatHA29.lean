/-
  Less is safe for plans; which legs are told; who can be left out: plain. Conditions: none.
-/
import Derived.Test.YtagmodjadmecdaaGreatHA28
import Derived.Test.YtagmodjadmecdaaGreatHA24
import Derived.Test.YtagmodjadmecdaaGreatHA16
namespace Go.Proofs.YtagmodjadmecdaaGreat
open Go Go.RowKit

theorem brok_sub {r : Rul} (hr : okRul r = true) : ∀ {E D D' : List Sp}, D.Perm (D' ++ E) → (∀ x ∈ D, OkSp x) → brokP r (srtS D) = 0 → brokP r (srtS D') = 0
  | [], D, D', hp, hl, h => by rw [List.append_nil] at hp; rwa [← srt_of_perm hp]
  | e :: E, D, D', hp, hl, h => by
    have hq : D.Perm (e :: (D' ++ E)) := hp.trans List.perm_middle
    exact brok_sub hr (E := E) (List.Perm.refl _) (fun x hx => hl x (hq.mem_iff.2 (List.mem_cons_of_mem _ hx))) (brok_less hr hq hl h)
structure DomM (m m' : Mb) : Prop where
  f : m'.f = m.f
  u : m'.u = m.u
  ps : m'.ps = m.ps
  ts : ∃ D D' E, m.ts = srtS D ∧ m'.ts = srtS D' ∧ D.Perm (D' ++ E) ∧ ∀ x ∈ D, OkSp x
theorem DomM.board {s : Slr} (h : okSlr s = true) : DomM (boardP s) (boardP s) :=
  ⟨rfl, rfl, rfl, s.ds.map lngS, s.ds.map lngS, [], rfl, rfl, by rw [List.append_nil], fun x hx => by obtain ⟨d, hd, rfl⟩ := List.mem_map.1 hx; exact lng_ok ((okSlr_ok h).2.2.2 d hd)⟩
theorem canM_win {r : Rul} {x : Leg} {m : Mb} (h : canM r x m = true) : winM m.f m.u x = true ∧ brokP r (insS (lngS x.t) m.ts) = 0 := by
  unfold canM canB at h
  rw [Bool.and_eq_true, decide_eq_true_eq] at h; exact h
theorem DomM.can {r : Rul} (hr : okRul r = true) {x : Leg} (hx : okLeg x = true) {m m' : Mb} (h : DomM m m') (hc : canM r x m = true) : canM r x m' = true := by
  obtain ⟨h1, h2⟩ := canM_win hc
  obtain ⟨D, D', E, e1, e2, hp, hl⟩ := h.ts
  unfold canM canB
  rw [h.f, h.u, h1, Bool.true_and, decide_eq_true_eq, e2, ← srtS_cons]
  rw [e1, ← srtS_cons] at h2
  exact brok_sub hr (E := E) (D := lngS x.t :: D) (by rw [List.cons_append]; exact hp.cons _) (fun y hy => by
    rcases List.mem_cons.1 hy with e | hy
    · rw [e]; exact lng_ok (okLeg_ok hx).1
    · exact hl y hy) h2
theorem aftM_ts {r : Rul} {x : Leg} {m : Mb} (h : canM r x m = true) : (aftM x m).ts = insS (lngS x.t) m.ts := by
  unfold aftM canT; simp only []; rw [if_pos (canM_win h).1]
theorem DomM.more {r : Rul} {x : Leg} (hx : okLeg x = true) {m m' : Mb} (h : DomM m m') (hc : canM r x m = true) : DomM (aftM x m) m' := by
  obtain ⟨D, D', E, e1, e2, hp, hl⟩ := h.ts
  refine ⟨h.f, h.u, h.ps, lngS x.t :: D, D', lngS x.t :: E, by rw [aftM_ts hc, e1]; rfl, e2, (hp.cons _).trans List.perm_middle.symm, fun y hy => ?_⟩
  rcases List.mem_cons.1 hy with e | hy
  · rw [e]; exact lng_ok (okLeg_ok hx).1
  · exact hl y hy
theorem DomM.both {r : Rul} {x x' : Leg} (ht : x'.t = x.t) (hx : okLeg x = true) {m m' : Mb} (h : DomM m m') (hc : canM r x m = true) (hc' : canM r x' m' = true) : DomM (aftM x m) (aftM x' m') := by
  obtain ⟨D, D', E, e1, e2, hp, hl⟩ := h.ts
  refine ⟨h.f, h.u, h.ps, lngS x.t :: D, lngS x.t :: D', E, by rw [aftM_ts hc, e1]; rfl, by rw [aftM_ts hc', e2, ht]; rfl, by rw [List.cons_append]; exact hp.cons _, fun y hy => ?_⟩
  rcases List.mem_cons.1 hy with e | hy
  · rw [e]; exact lng_ok (okLeg_ok hx).1
  · exact hl y hy
def Dom (ms ms' : List Mb) : Prop := ms.length ≤ ms'.length ∧ ∀ i, i < ms.length → DomM (nth ms i) (nth ms' i)
theorem nth_apL {α : Type} [Inhabited α] {a b : List α} {i : Nat} (h : i < a.length) : nth (a ++ b) i = nth a i := by simp [nth, List.getD_eq_getElem?_getD, List.getElem?_append_left h]
theorem Dom.board {ss : List Slr} (h : ∀ s ∈ ss, okSlr s = true) (more : List Mb) : Dom (ss.map boardP) (ss.map boardP ++ more) := by
  refine ⟨by rw [List.length_append]; omega, fun i hi => ?_⟩
  rw [nth_apL hi]
  rw [List.length_map] at hi
  rw [nth_map2 _ hi]; exact DomM.board (h _ (nth_mem hi))
theorem Dom.self {ss : List Slr} (h : ∀ s ∈ ss, okSlr s = true) : Dom (ss.map boardP) (ss.map boardP) := by have := Dom.board h []; rwa [List.append_nil] at this
theorem AscN.wide {n n' : Nat} (hn : n ≤ n') : ∀ {l : List Nat} {i : Nat}, AscN i n l → AscN i n' l
  | [], _, _ => trivial
  | _ :: _, _, h => ⟨h.1, by have := h.2.1; omega, AscN.wide hn h.2.2⟩
theorem pltN_dom {x : Leg} {ms ms' : List Mb} (hd : Dom ms ms') : ∀ {l : List Nat}, (∀ k ∈ l, k < ms.length) → pltN x ms' l = pltN x ms l
  | [], _ => rfl
  | k :: l, h => by
    rw [pltN, pltN, pltN_dom hd fun i hi => h i (by simp [hi])]
    unfold pltI
    rw [(hd.2 k (h k (by simp))).ps]
inductive Ez : List Leg → List Leg → Prop
  | nil : Ez [] []
  | skip {x xs xs'} : Ez xs xs' → Ez (x :: xs) xs'
  | keep {x xs xs'} : Ez xs xs' → Ez (x :: xs) (x :: xs')
  | ease {x xs xs'} : Ez xs xs' → Ez (x :: xs) (⟨x.r, x.t, 1, 0⟩ :: xs')
theorem Ez.refl : ∀ xs, Ez xs xs
  | [] => .nil
  | _ :: xs => .keep (Ez.refl xs)
theorem aft_dom {r : Rul} {x : Leg} (hx : okLeg x = true) {ms ms' : List Mb} (hd : Dom ms ms') {ns : List Nat} (hn : ns.Nodup) (hl : ∀ k ∈ ns, k < ms.length) (hc : ∀ k ∈ ns, canM r x (nth ms k) = true) : Dom (aftN x ns ms) ms' := by
  refine ⟨by rw [aftN_len]; exact hd.1, fun i hi => ?_⟩
  rw [aftN_len] at hi
  rw [aftN_at hn hl]
  by_cases e : i ∈ ns
  · rw [if_pos e]; exact (hd.2 i hi).more hx (hc i e)
  · rw [if_neg e]; exact hd.2 i hi
theorem aft_dom2 {r : Rul} {x x' : Leg} (ht : x'.t = x.t) (hx : okLeg x = true) {ms ms' : List Mb} (hd : Dom ms ms') {ns ns' : List Nat} (hn : ns.Nodup) (hl : ∀ k ∈ ns, k < ms.length) (hc : ∀ k ∈ ns, canM r x (nth ms k) = true) (hn' : ns'.Nodup) (hs : ∀ k ∈ ns', k ∈ ns) (hc' : ∀ k ∈ ns', canM r x' (nth ms' k) = true) : Dom (aftN x ns ms) (aftN x' ns' ms') := by
  refine ⟨by rw [aftN_len, aftN_len]; exact hd.1, fun i hi => ?_⟩
  rw [aftN_len] at hi
  rw [aftN_at hn hl, aftN_at hn' (fun k hk => by have := hl k (hs k hk); have := hd.1; omega)]
  by_cases e : i ∈ ns
  · rw [if_pos e]
    by_cases q : i ∈ ns'
    · rw [if_pos q]; exact (hd.2 i hi).both ht hx (hc i e) (hc' i q)
    · rw [if_neg q]; exact (hd.2 i hi).more hx (hc i e)
  · rw [if_neg e, if_neg (fun q => e (hs i q))]; exact hd.2 i hi
theorem Fe_ez {r : Rul} (hr : okRul r = true) : ∀ {xs xs' : List Leg} {ms ms' : List Mb}, Ez xs xs' → Dom ms ms' → (∀ x ∈ xs, okLeg x = true) → Fe r xs ms → Fe r xs' ms' := by
  intro xs xs' ms ms' he
  induction he generalizing ms ms' with
  | nil => intro _ _ _; exact Fe_nil
  | @skip x xs xs' _ ih =>
    rintro hd hx ⟨p, ns, p', rfl, hT, h2⟩
    have hx0 := hx x (by simp)
    exact ih (aft_dom hx0 hd hT.asc.nodup (fun k hk => (hT.asc.mem hk).2) hT.can) (fun y hy => hx y (by simp [hy])) ⟨p', h2⟩
  | @keep x xs xs' _ ih =>
    rintro hd hx ⟨p, ns, p', rfl, hT, h2⟩
    have hx0 := hx x (by simp)
    have hl : ∀ k ∈ ns, k < ms.length := fun k hk => (hT.asc.mem hk).2
    have hc : ∀ k ∈ ns, canM r x (nth ms' k) = true := fun k hk => (hd.2 k (hl k hk)).can hr hx0 (hT.can k hk)
    obtain ⟨q, hq⟩ := ih (aft_dom2 rfl hx0 hd hT.asc.nodup hl hT.can hT.asc.nodup (fun k hk => hk) hc) (fun y hy => hx y (by simp [hy])) ⟨p', h2⟩
    exact ⟨ns :: q, ns, q, rfl, ⟨hT.len, hT.asc.wide hd.1, hc, by rw [pltN_dom hd hl]; exact hT.plt⟩, hq⟩
  | @ease x xs xs' _ ih =>
    rintro hd hx ⟨p, ns, p', rfl, hT, h2⟩
    have hx0 := hx x (by simp)
    have hl : ∀ k ∈ ns, k < ms.length := fun k hk => (hT.asc.mem hk).2
    have hh := (okLeg_ok hx0).2.1
    have hlen := hT.len
    obtain ⟨k, hk⟩ : ∃ k, k ∈ ns := by
      match ns, hlen with
      | [], h => simp at h; omega
      | k :: _, _ => exact ⟨k, by simp⟩
    have hc : ∀ j ∈ [k], canM r ⟨x.r, x.t, 1, 0⟩ (nth ms' j) = true := fun j hj => by
      rw [List.mem_singleton.1 hj]; exact (hd.2 k (hl k hk)).can hr hx0 (hT.can k hk)
    obtain ⟨q, hq⟩ := ih (aft_dom2 (x := x) (x' := ⟨x.r, x.t, 1, 0⟩) (ns' := [k]) rfl hx0 hd hT.asc.nodup hl hT.can (by simp) (fun j hj => by rw [List.mem_singleton.1 hj]; exact hk) hc) (fun y hy => hx y (by simp [hy])) ⟨p', h2⟩
    exact ⟨[k] :: q, [k], q, rfl, ⟨rfl, ⟨Nat.zero_le _, by have := hl k hk; have := hd.1; omega, trivial⟩, hc, by have := (pltN_rng ⟨x.r, x.t, 1, 0⟩ ms' [k]).1; show (0 : Int) ≤ _; omega⟩, hq⟩
def pickN (xs : List Leg) (ns : List Nat) : List Leg := ns.map fun k => nth xs k
theorem pick_castL (xs : List Leg) (ns : List Nat) : pickL xs (castL ns) = pickN xs ns := by
  unfold pickL castL pickN
  rw [List.map_map]; exact List.map_congr_left fun k _ => by simp
theorem Ez_drop {xs ys : List Leg} {k : Nat} : ∀ {d i : Nat}, k = i + d → Ez (xs.drop k) ys → Ez (xs.drop i) ys
  | 0, i, e, h => by rw [Nat.add_zero] at e; rwa [← e]
  | d + 1, i, e, h => by
    by_cases hi : i < xs.length
    · rw [drop_nth hi]; exact .skip (Ez_drop (d := d) (by omega) h)
    · rw [List.drop_of_length_le (by omega)] at h ⊢; exact h
theorem Ez_pick {xs : List Leg} : ∀ {ns : List Nat} {i : Nat}, AscN i xs.length ns → Ez (xs.drop i) (pickN xs ns)
  | [], i, _ => by
    have : ∀ l : List Leg, Ez l [] := fun l => by
      induction l with
      | nil => exact .nil
      | cons _ _ ih => exact .skip ih
    exact this _
  | k :: l, i, h => by
    have h2 : k < xs.length := h.2.1
    refine Ez_drop (k := k) (d := k - i) (by have := h.1; omega) ?_
    rw [drop_nth h2]
    exact .keep (Ez_pick h.2.2)
theorem AscN.len {n : Nat} : ∀ {l : List Nat} {i : Nat}, AscN i n l → l.length ≤ n - i
  | [], _, _ => Nat.zero_le _
  | k :: l, i, h => by
    have := AscN.len h.2.2
    have h1 := h.1; have h2 := h.2.1
    rw [List.length_cons]; omega
theorem mem_ch {n : Nat} : ∀ {m i : Nat} {l : List Int}, l ∈ chP n m i ↔ ∃ ns, AscN i n ns ∧ ns.length = m ∧ l = castL ns
  | 0, i, l => by
    rw [chP, List.mem_singleton]
    constructor
    · rintro rfl; exact ⟨[], trivial, rfl, rfl⟩
    · rintro ⟨ns, _, h, rfl⟩; rw [List.length_eq_zero_iff.1 h]; rfl
  | m + 1, i, l => by
    rw [chP, List.mem_flatMap]
    constructor
    · rintro ⟨k, hk, hl⟩
      obtain ⟨l2, hl2, rfl⟩ := List.mem_map.1 hl
      obtain ⟨ns, h1, h2, rfl⟩ := mem_ch.1 hl2
      have hk2 := List.mem_range'_1.1 hk
      exact ⟨k :: ns, ⟨hk2.1, by omega, h1⟩, by rw [List.length_cons, h2], rfl⟩
    · rintro ⟨ns, h1, h2, rfl⟩
      match ns, h1, h2 with
      | k :: ns, h1, h2 =>
        have h3 := AscN.len h1.2.2
        have h4 := h1.1; have h5 := h1.2.1
        rw [List.length_cons] at h2
        exact ⟨k, List.mem_range'_1.2 (by omega), List.mem_map.2 ⟨castL ns, mem_ch.2 ⟨ns, h1.2.2, by omega, rfl⟩, rfl⟩⟩
theorem AscN_range {n : Nat} : ∀ (d i : Nat), i + d = n → AscN i n (List.range' i d)
  | 0, _, _ => trivial
  | d + 1, i, h => by rw [List.range'_succ]; exact ⟨Nat.le_refl _, by omega, AscN_range d (i + 1) (by omega)⟩
theorem pick_all (xs : List Leg) : pickN xs (List.range' 0 xs.length) = xs := by
  unfold pickN
  refine ext_nth (by simp) fun i hi => ?_
  rw [List.length_map, List.length_range'] at hi
  rw [nth_map2 _ (by simpa using hi)]
  simp [nth, List.getD_eq_getElem?_getD, hi]
structure ShortN (r : Rul) (ms : List Mb) (xs : List Leg) (ns : List Nat) : Prop where
  asc : AscN 0 xs.length ns
  pos : 0 < ns.length
  no : sfP r (pickN xs ns) ms = false
  less : ∀ k, k < ns.length → sfP r (pickN xs (ns.take k ++ ns.drop (k + 1))) ms = true
theorem short_ok {r : Rul} {ss : List Slr} {xs : List Leg} {l : List Int} {e : Int} (h : ShortR r ss xs l e) (h0 : openE r ss xs = 0) (hn : sfP r xs (ss.map boardP) = true) : l = [] ∧ e = 9 := by
  rcases h with ⟨h, _⟩ | ⟨_, _, h1, h2⟩ | ⟨_, h, _⟩ | ⟨_, h, _⟩
  · exact absurd h0 h
  · exact ⟨h1, h2⟩
  · rw [hn] at h; cases h
  · rw [hn] at h; cases h
theorem spG_len {r : Rul} {xs : List Leg} {ms : List Mb} : ∀ n, (spG r xs ms n).length ≤ n
  | 0 => Nat.le_refl _
  | n + 1 => by have := spG_len (r := r) (xs := xs) (ms := ms) n; rw [spG, List.length_append]; split <;> simp <;> omega
theorem spare_of {r : Rul} {ss : List Slr} {xs : List Leg} {l : List Int} {e : Int} (h : SpareR r ss xs l e) (h0 : openE r ss xs = 0) : (sfP r xs (ss.map boardP) = false → l = [] ∧ e = 7) ∧ (sfP r xs (ss.map boardP) = true → e = 0 ∧ l = spG r xs (ss.map boardP) ss.length) := by
  rcases h with ⟨h, _⟩ | ⟨_, h, h1, h2⟩ | ⟨_, h, h1, h2⟩
  · exact absurd h0 h
  · exact ⟨fun _ => ⟨h1, h2⟩, fun q => by rw [h] at q; cases q⟩
  · exact ⟨(fun q => by rw [h] at q; cases q), fun _ => ⟨h1, h2⟩⟩
end Go.Proofs.YtagmodjadmecdaaGreat
