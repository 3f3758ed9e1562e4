/-
  There and back: plain. Conditions: none.
-/
import Derived.Test.YtgkkgpenmppjcaaD3
namespace Go.Proofs.Ytgkkgpenmppjcaa
open Go Go.RowKit
theorem step1 {S : Stt} {x : Ev} {e : Int} (hk : x.kind = 1) : stepF S x e = { S with loaded := S.loaded.set (x.bill).toNat (nth S.loaded (x.bill).toNat + x.tons), hold := S.hold.set (x.to).toNat (nth S.hold (x.to).toNat ++ [⟨x.bill, x.tons, [e]⟩]) } := by unfold stepF; rw [if_pos hk]
theorem step2 {S : Stt} {x : Ev} {e : Int} (hk : x.kind = 2) : stepF S x e = { S with hold := (S.hold.set (x.frm).toNat (takV (nth S.hold (x.frm).toNat) x.tons).1).set (x.to).toNat (nth S.hold (x.to).toNat ++ (takV (nth S.hold (x.frm).toNat) x.tons).2.map (movL e)) } := by unfold stepF; rw [if_neg (by omega), if_pos hk]
theorem step3 {S : Stt} {x : Ev} {e : Int} (hk : x.kind = 3) : stepF S x e = { S with hold := S.hold.set (x.frm).toNat (takV (nth S.hold (x.frm).toNat) x.tons).1, landed := S.landed ++ [⟨e, x.port, (takV (nth S.hold (x.frm).toNat) x.tons).2.map (movL e)⟩] } := by unfold stepF; rw [if_neg (by omega), if_neg (by omega), if_pos hk]
theorem step4 {S : Stt} {x : Ev} {e : Int} (hk : x.kind = 4) : stepF S x e = { S with sealed := S.sealed.set (x.to).toNat true, seals := S.seals ++ [x.sn] } := by unfold stepF; rw [if_neg (by omega), if_neg (by omega), if_neg (by omega), if_pos hk]
theorem step5 {S : Stt} {x : Ev} {e : Int} (hk : x.kind = 5) : stepF S x e = { S with sealed := S.sealed.set (x.frm).toNat false } := by unfold stepF; rw [if_neg (by omega), if_neg (by omega), if_neg (by omega), if_neg (by omega)]

theorem takR_app : ∀ {q r : List Lay}, (∀ x ∈ q, 1 ≤ x.tons) → takR (q ++ r) (sumT q) = (r, q)
  | [], r, _ => by
    cases r with
    | nil => rfl
    | cons y r => show (if (0 : Int) ≤ 0 then _ else _) = _; rw [if_pos (Int.le_refl 0)]
  | x :: q, r, h => by
    have hx := h x (by simp)
    have hq : ∀ y ∈ q, 1 ≤ y.tons := fun y hy => h y (List.mem_cons_of_mem _ hy)
    have h0 := flatB_len hq
    have ht : sumT (x :: q) = x.tons + sumT q := rfl
    generalize sumT (x :: q) = t at ht
    rw [List.cons_append]
    simp only [takR]
    rw [if_neg (by omega), if_neg (by omega), show t - x.tons = sumT q by omega, takR_app hq]
theorem takV_app {a p : List Lay} {m : Int} (h : ∀ x ∈ p, 1 ≤ x.tons) (hm : sumT p = m) : takV (a ++ p) m = (a, p.reverse) := by
  unfold takV
  rw [List.reverse_append, ← hm, ← sumT_rev p, takR_app (fun x hx => h x (List.mem_reverse.1 hx)), List.reverse_reverse]
theorem flatB_app (a b : List Lay) : flatB (a ++ b) = flatB a ++ flatB b := by unfold flatB; rw [List.flatMap_append]
theorem flatB_mov (e : Int) : ∀ (l : List Lay), flatB (l.map (movL e)) = flatB l
  | [] => rfl
  | x :: l => by
    have := flatB_mov e l
    unfold flatB at this ⊢
    rw [List.map_cons, List.flatMap_cons, List.flatMap_cons, this]; rfl
theorem flatB_one (x : Lay) : flatB [x] = List.replicate x.tons.toNat x.bill := by unfold flatB; simp
theorem takR_flat : ∀ {l : List Lay} {t : Int}, (∀ x ∈ l, 1 ≤ x.tons) → 0 ≤ t → flatB l.reverse = flatB (takR l t).1.reverse ++ flatB (takR l t).2.reverse
  | [], t, _, _ => by simp [takR, flatB]
  | x :: r, t, h, h0 => by
    have hx := h x (by simp)
    simp only [takR]
    split
    · rw [List.reverse_nil]; show _ = _ ++ flatB []; unfold flatB; simp
    · split
      · rw [List.reverse_cons, List.reverse_cons, flatB_app, flatB_app, List.append_assoc, flatB_one, flatB_one, List.reverse_singleton, flatB_one]
        congr 1
        show List.replicate x.tons.toNat x.bill = List.replicate (x.tons - t).toNat x.bill ++ List.replicate t.toNat x.bill
        rw [List.replicate_append_replicate]
        congr 1
        omega
      · have ih := takR_flat (l := r) (t := t - x.tons) (fun y hy => h y (List.mem_cons_of_mem _ hy)) (by omega)
        show flatB (x :: r).reverse = flatB _ ++ flatB (x :: _).reverse
        rw [List.reverse_cons, List.reverse_cons, flatB_app, flatB_app, ih, List.append_assoc]
theorem takV_flat {l : List Lay} {t : Int} (h : ∀ x ∈ l, 1 ≤ x.tons) (h0 : 0 ≤ t) : flatB l = flatB (takV l t).1 ++ flatB (takV l t).2.reverse := by
  have := takR_flat (l := l.reverse) (fun x hx => h x (List.mem_reverse.1 hx)) h0
  rw [List.reverse_reverse] at this
  exact this
/-- An event that comes next, and its error or what it does. -/
theorem sail_no {bs : List Bil} {hs : List Hld} {l : List Ev} {x : Ev} (h : sEr bs hs l = 0) (hl : l.length < 100) (hx : okEv x = true) {e : Int} (hc : chkP bs (hs.map Hld.cap) (sSt bs hs l) (lastM 0 l) x = e) (he : e ≠ 0) : sEr bs hs (l ++ [x]) = e ∧ sAt bs hs (l ++ [x]) = (l.length : Int) := by
  unfold sEr sAt
  rw [sail_snoc h hl hx, hc, if_pos he]
  exact ⟨rfl, rfl⟩
theorem sail_yes {bs : List Bil} {hs : List Hld} {l : List Ev} {x : Ev} (h : sEr bs hs l = 0) (hl : l.length < 100) (hx : okEv x = true) (hc : chkP bs (hs.map Hld.cap) (sSt bs hs l) (lastM 0 l) x = 0) : sEr bs hs (l ++ [x]) = 0 ∧ sSt bs hs (l ++ [x]) = stepF (sSt bs hs l) x (l.length : Int) := by
  unfold sEr
  show _ ∧ (sailP bs hs (l ++ [x])).1 = _
  rw [sail_snoc h hl hx, if_neg (by rw [hc]; decide)]
  exact ⟨rfl, rfl⟩
theorem sail_chk {bs : List Bil} {hs : List Hld} {l : List Ev} {x : Ev} (h : sEr bs hs l = 0) (hl : l.length < 100) (hx : okEv x = true) : sEr bs hs (l ++ [x]) = chkP bs (hs.map Hld.cap) (sSt bs hs l) (lastM 0 l) x := by
  unfold sEr
  rw [sail_snoc h hl hx]
  by_cases hc : chkP bs (hs.map Hld.cap) (sSt bs hs l) (lastM 0 l) x ≠ 0
  · rw [if_pos hc]
  · rw [if_neg hc]; exact (Decidable.not_not.1 hc).symm
/-! ### There and back -/
def shE (f t m : Int) : Ev := ⟨2, 100, 0, f, t, m, 0, 0⟩
theorem shE_ok {f t m : Int} (h : (0 ≤ f ∧ f ≤ 3) ∧ (0 ≤ t ∧ t ≤ 3) ∧ 1 ≤ m ∧ m ≤ 256) : okEv (shE f t m) = true := by
  unfold shE
  simp only [okEv, okEv0, okTons, okPort, Bool.and_eq_true, Bool.or_eq_true, decide_eq_true_eq, and_true, true_and]
  refine ⟨by omega, .inl (.inl (.inl (.inr ?_)))⟩
  omega
theorem back {d : List Ev} {f t m : Int} (h0 : sEr fourB fourH d = 0) (hl : d.length ≤ 30) (hr : (0 ≤ f ∧ f ≤ 3) ∧ (0 ≤ t ∧ t ≤ 3) ∧ 1 ≤ m ∧ m ≤ 256) (h1 : sEr fourB fourH (d ++ [shE f t m]) = 0) :
    sEr fourB fourH (d ++ [shE f t m] ++ [shE t f m]) = 0 ∧ ∀ i : Nat, i < 4 → flatB (nth (sSt fourB fourH (d ++ [shE f t m] ++ [shE t f m])).hold i) = flatB (nth (sSt fourB fourH d).hold i) ∧ ((i : Int) ≠ f → (i : Int) ≠ t → nth (sSt fourB fourH (d ++ [shE f t m] ++ [shE t f m])).hold i = nth (sSt fourB fourH d).hold i) := by
  have hc := (sail_chk h0 (by omega) (shE_ok hr)).symm.trans h1
  have hev := EvOk.of (shE_ok hr) hc
  have hok := sail_ok h0
  have hS1 := (sail_yes h0 (by omega) (shE_ok hr) hc).2
  have hok1 := sail_ok h1
  generalize sSt fourB fourH d = S at *
  have hn := hok.hn
  have hsn := hok.sn
  rw [show (fourH.map Hld.cap).length = 4 from rfl] at hn hsn
  have hne : f.toNat ≠ t.toNat := hev.ne rfl
  have hhas : m ≤ sumT (nth S.hold f.toNat) := hev.has rfl
  have hsf : nth S.sealed f.toNat = false := hev.sf rfl
  have hst : nth S.sealed t.toNat = false := hev.st rfl
  rw [step2 rfl] at hS1
  have hf4 : f.toNat < 4 := by omega
  have ht4 : t.toNat < 4 := by omega
  have hlf : ∀ x ∈ nth S.hold f.toNat, LayOk d.length x := hok.tons _ (nth_mem (by omega))
  have hlt : ∀ x ∈ nth S.hold t.toNat, LayOk d.length x := hok.tons _ (nth_mem (by omega))
  obtain ⟨k1, k2, k3, k4⟩ := takV_spec hlf (show 0 ≤ m by omega) hhas
  have kf := takV_flat (l := nth S.hold f.toNat) (t := m) (fun x hx => (hlf x hx).1) (by omega)
  have hcap := hok.cap f.toNat hf4
  have hpt : 0 ≤ sumT (nth S.hold t.toNat) := by have := flatB_len (l := nth S.hold t.toNat) (fun x hx => (hlt x hx).1); omega
  generalize htk : takV (nth S.hold f.toNat) m = tk at *
  have e1f : nth (sSt fourB fourH (d ++ [shE f t m])).hold f.toNat = tk.1 := by
    rw [hS1]
    show nth ((S.hold.set f.toNat (takV (nth S.hold f.toNat) m).1).set t.toNat _) f.toNat = _
    rw [nth_set_ne hne, nth_set_eq (by omega), htk]
  have e1t : nth (sSt fourB fourH (d ++ [shE f t m])).hold t.toNat = nth S.hold t.toNat ++ tk.2.map (movL (d.length : Int)) := by
    rw [hS1]
    show nth ((S.hold.set f.toNat _).set t.toNat (nth S.hold t.toNat ++ (takV (nth S.hold f.toNat) m).2.map (movL (d.length : Int)))) t.toNat = _
    rw [nth_set_eq (by rw [List.length_set]; omega), htk]
  have e1s : (sSt fourB fourH (d ++ [shE f t m])).sealed = S.sealed := by rw [hS1]
  have e1o : ∀ i : Nat, i ≠ f.toNat → i ≠ t.toNat → nth (sSt fourB fourH (d ++ [shE f t m])).hold i = nth S.hold i := fun i a b => by
    rw [hS1]
    show nth ((S.hold.set f.toNat _).set t.toNat _) i = _
    rw [nth_set_ne b, nth_set_ne a]
  have e1n := hok1.hn
  rw [show (fourH.map Hld.cap).length = 4 from rfl] at e1n
  have hl1 : (d ++ [shE f t m]).length = d.length + 1 := by simp
  generalize hS1e : sSt fourB fourH (d ++ [shE f t m]) = S1 at *
  have hc2 : chkP fourB (fourH.map Hld.cap) S1 (lastM 0 (d ++ [shE f t m])) (shE t f m) = 0 := by
    rw [lastM_snoc]
    unfold chkP
    rw [if_neg (by show ¬ (100 : Int) < 100; omega), if_neg, if_neg, if_neg, if_neg, if_neg, if_neg]
    · have q : ¬ nth (fourH.map Hld.cap) f.toNat < sumT (nth S1.hold f.toNat) + m := by rw [e1f]; omega
      show ¬ ((true && decide (nth (fourH.map Hld.cap) f.toNat < sumT (nth S1.hold f.toNat) + m)) && decide (0 < m)) = true
      rw [decide_eq_false q]; simp
    · have q : ¬ sumT (nth S1.hold t.toNat) < m := by rw [e1t, sumT_append, sumT_mov]; omega
      show ¬ (true && decide (sumT (nth S1.hold t.toNat) < m)) = true
      rw [decide_eq_false q]; decide
    · show ¬ chkKP fourB S1 (shE t f m) ≠ 0
      unfold chkKP
      rw [if_neg (by show ¬ (2 : Int) = 1; decide), if_neg (by show ¬ ((2 : Int) = 4 ∧ _); exact fun h => absurd h.1 (by decide))]
      decide
    · show ¬ ((true && (nth S1.sealed t.toNat != false)) || (true && nth S1.sealed f.toNat)) = true
      rw [e1s, hsf, hst]; decide
    · show ¬ ((true && true) && decide (t = f)) = true
      rw [decide_eq_false (show ¬ t = f by omega)]; decide
    · show ¬ ((true && decide ((4 : Int) ≤ t)) || (true && decide ((4 : Int) ≤ f)) || (false && _)) = true
      rw [decide_eq_false (show ¬ (4 : Int) ≤ t by omega), decide_eq_false (show ¬ (4 : Int) ≤ f by omega)]; simp
  obtain ⟨y1, y2⟩ := sail_yes h1 (by rw [hl1]; omega) (shE_ok ⟨hr.2.1, hr.1, hr.2.2⟩) (by rw [hS1e]; exact hc2)
  refine ⟨y1, fun i hi => ?_⟩
  rw [y2, hS1e, step2 rfl, hl1]
  have ta : takV (nth S1.hold t.toNat) m = (nth S.hold t.toNat, (tk.2.map (movL (d.length : Int))).reverse) := by
    rw [e1t]
    exact takV_app (fun x hx => (movL_ok k4 x hx).1) (by rw [sumT_mov]; exact k2)
  have e2 : ∀ j : Nat, nth ((S1.hold.set t.toNat (takV (nth S1.hold t.toNat) m).1).set f.toNat (nth S1.hold f.toNat ++ (takV (nth S1.hold t.toNat) m).2.map (movL ((d.length + 1 : Nat) : Int)))) j = if j = f.toNat then tk.1 ++ ((tk.2.map (movL (d.length : Int))).reverse).map (movL ((d.length + 1 : Nat) : Int)) else if j = t.toNat then nth S.hold t.toNat else nth S1.hold j := fun j => by
    rw [ta, e1f]
    by_cases a : j = f.toNat
    · rw [if_pos a, a, nth_set_eq (by rw [List.length_set]; omega)]
    · rw [if_neg a, nth_set_ne a]
      by_cases b : j = t.toNat
      · rw [if_pos b, b, nth_set_eq (by omega)]
      · rw [if_neg b, nth_set_ne b]
  show flatB (nth ((S1.hold.set t.toNat (takV (nth S1.hold t.toNat) m).1).set f.toNat (nth S1.hold f.toNat ++ (takV (nth S1.hold t.toNat) m).2.map (movL ((d.length + 1 : Nat) : Int)))) i) = _ ∧ (_ → _ → nth ((S1.hold.set t.toNat (takV (nth S1.hold t.toNat) m).1).set f.toNat (nth S1.hold f.toNat ++ (takV (nth S1.hold t.toNat) m).2.map (movL ((d.length + 1 : Nat) : Int)))) i = _)
  rw [e2 i]
  by_cases a : i = f.toNat
  · rw [if_pos a, a]
    refine ⟨?_, fun h => absurd (show ((f.toNat : Nat) : Int) = f by omega) h⟩
    rw [flatB_app, flatB_mov, ← List.map_reverse, flatB_mov]
    exact kf.symm
  · rw [if_neg a]
    by_cases b : i = t.toNat
    · rw [if_pos b, b]
      exact ⟨rfl, fun _ _ => rfl⟩
    · rw [if_neg b, e1o i a b]
      exact ⟨rfl, fun _ _ => rfl⟩
/-! ### Sealed -/
theorem runE_seals {bs : List Bil} {caps : List Int} {p : Int → Prop} : ∀ {l : List Ev} {i : Nat} {S : Stt} {mi : Int}, (∀ s ∈ S.seals, p s) → (∀ x ∈ l, p x.sn) → ∀ s ∈ (runE bs caps l i S mi).1.seals, p s
  | [], i, S, mi, h, _ => h
  | x :: l, i, S, mi, h, hx => by
    unfold runE
    split
    · exact h
    · refine runE_seals (fun s hs => ?_) (fun y hy => hx y (List.mem_cons_of_mem _ hy))
      unfold stepF at hs
      repeat (split at hs; first | exact h s hs | skip)
      · rcases List.mem_append.1 hs with hs | hs
        · exact h s hs
        · have : s = x.sn := by simpa using hs
          subst this; exact hx x (by simp)
      · exact h s hs
theorem hap_sn {xs : List X5} (hxs : ∀ x ∈ xs, okX5 x) : ∀ {k : Nat}, k ≤ xs.length → ∀ y ∈ hap xs k, y.sn ≤ 256
  | 0, _, y, hy => by cases hy
  | k + 1, hk, y, hy => by
    have ih := hap_sn hxs (k := k) (by omega)
    unfold hap at hy
    split at hy
    · rcases List.mem_append.1 hy with hy | hy
      · exact ih y hy
      · have : y = evOf (nth xs k) k := by simpa using hy
        subst this
        have hx := hxs _ (nth_mem (xs := xs) (i := k) (by omega))
        unfold okX5 at hx
        unfold evOf
        split
        · show (0 : Int) ≤ 256; decide
        split
        · show (0 : Int) ≤ 256; decide
        split
        · show (0 : Int) ≤ 256; decide
        split
        · show 1 + (nth xs k).e ≤ 256; omega
        · show (0 : Int) ≤ 256; decide
    · exact ih y hy
theorem done_seals {xs : List X5} (hxs : ∀ x ∈ xs, okX5 x) : ∀ s ∈ (sSt fourB fourH (done xs)).seals, s ≤ 256 := by
  have h0 := done_ok (xs := xs)
  obtain ⟨h1, h2, h3⟩ := sail_inv h0
  unfold sSt
  rw [sail_eq h1 h2 h3]
  exact runE_seals (p := fun s => s ≤ 256) (fun s hs => by cases hs) (hap_sn hxs (Nat.min_le_left _ _))
def seE (f sn : Int) : Ev := ⟨4, 100, 0, 0, f, 0, 0, sn⟩
theorem seE_ok {f sn : Int} (h : 0 ≤ f ∧ f ≤ 3) (hs : 1 ≤ sn ∧ sn ≤ 1000000) : okEv (seE f sn) = true := by
  unfold seE
  simp only [okEv, okEv0, okTons, okPort, Bool.and_eq_true, Bool.or_eq_true, decide_eq_true_eq, and_true, true_and]
  refine ⟨by omega, .inl (.inr ?_)⟩
  omega
theorem seal_no {d : List Ev} {f : Int} (h0 : sEr fourB fourH d = 0) (hl : d.length ≤ 30) (hm : lastM 0 d ≤ 100) (hr : 0 ≤ f ∧ f ≤ 3) (hs : ∀ s ∈ (sSt fourB fourH d).seals, s ≤ 256) (h1 : ¬ sEr fourB fourH (d ++ [seE f 1000]) = 0) : sEr fourB fourH (d ++ [seE f 1000]) = 9 ∧ sAt fourB fourH (d ++ [seE f 1000]) = (d.length : Int) := by
  have hc := sail_chk h0 (by omega) (seE_ok (sn := 1000) hr (by decide))
  refine sail_no h0 (by omega) (seE_ok hr (by decide)) ?_ (by decide)
  rw [hc] at h1
  generalize sSt fourB fourH d = S at *
  unfold chkP at h1 ⊢
  rw [if_neg (by show ¬ (100 : Int) < _; omega)] at h1 ⊢
  have c2 : ¬ c2P (fourH.map Hld.cap).length fourB.length (seE f 1000) = true := by
    show ¬ ((false && _) || (true && decide ((4 : Int) ≤ f)) || (false && _)) = true
    rw [decide_eq_false (show ¬ (4 : Int) ≤ f by omega)]; simp
  have c3' : ¬ c3 (seE f 1000) = true := by show ¬ ((false && _) && _) = true; simp
  have c5' : ¬ c5P S (seE f 1000) = true := by show ¬ (false && _) = true; simp
  have c6' : ¬ c6P (fourH.map Hld.cap) S (seE f 1000) = true := by show ¬ ((true && _) && decide ((0 : Int) < 0)) = true; simp
  have ck : ¬ chkKP fourB S (seE f 1000) ≠ 0 := by
    unfold chkKP
    rw [if_neg (by show ¬ (4 : Int) = 1; decide), if_neg]
    · decide
    · exact fun h => absurd (hs _ h.2) (by show ¬ (1000 : Int) ≤ 256; decide)
  rw [if_neg c2, if_neg c3'] at h1 ⊢
  by_cases q : c4P S (seE f 1000) = true
  · rw [if_pos q]
  · rw [if_neg q, if_neg ck, if_neg c5', if_neg c6'] at h1
    exact absurd rfl h1
theorem seal_yes {d : List Ev} {f : Int} (h0 : sEr fourB fourH d = 0) (hl : d.length ≤ 30) (hr : 0 ≤ f ∧ f ≤ 3) (h1 : sEr fourB fourH (d ++ [seE f 1000]) = 0) : (sSt fourB fourH (d ++ [seE f 1000])).hold = (sSt fourB fourH d).hold ∧ nth (sSt fourB fourH (d ++ [seE f 1000])).sealed f.toNat = true := by
  have hc := (sail_chk h0 (by omega) (seE_ok (sn := 1000) hr (by decide))).symm.trans h1
  have hS1 := (sail_yes h0 (by omega) (seE_ok hr (by decide)) hc).2
  have hsn := (sail_ok h0).sn
  rw [hS1, step4 rfl]
  refine ⟨rfl, ?_⟩
  show nth ((sSt fourB fourH d).sealed.set f.toNat true) f.toNat = true
  rw [nth_set_eq (by rw [hsn]; show _ < 4; omega)]
/-- What is refused as long as a hold is sealed. -/
theorem sealed_no {d : List Ev} {f : Int} {y : Ev} (h0 : sEr fourB fourH d = 0) (hl : d.length ≤ 30) (hr : 0 ≤ f ∧ f ≤ 3) (h1 : sEr fourB fourH (d ++ [seE f 1000]) = 0) (hy : okEv y = true) (hm : y.minute = 100) (c2 : c2P 4 4 y = false) (c3' : c3 y = false) (c4' : ∀ S : Stt, nth S.sealed f.toNat = true → c4P S y = true) :
    sEr fourB fourH (d ++ [seE f 1000] ++ [y]) = 9 ∧ sAt fourB fourH (d ++ [seE f 1000] ++ [y]) = ((d ++ [seE f 1000]).length : Int) := by
  refine sail_no h1 (by rw [List.length_append, List.length_singleton]; omega) hy ?_ (by decide)
  unfold chkP
  rw [lastM_snoc, hm, if_neg (by show ¬ (100 : Int) < 100; omega), if_neg (by rw [show (fourH.map Hld.cap).length = 4 from rfl, show fourB.length = 4 from rfl, c2]; decide), if_neg (by rw [c3']; decide), if_pos (c4' _ (seal_yes h0 hl hr h1).2)]
def ldE (b f p : Int) : Ev := ⟨1, 100, b, 0, f, 1, p, 0⟩
def unE (f : Int) : Ev := ⟨3, 100, 0, f, 0, 1, 1, 0⟩
def brE (f : Int) : Ev := ⟨5, 101, 0, f, 0, 0, 0, 0⟩
theorem ld_no {d : List Ev} {f b p : Int} (h0 : sEr fourB fourH d = 0) (hl : d.length ≤ 30) (hr : 0 ≤ f ∧ f ≤ 3) (h1 : sEr fourB fourH (d ++ [seE f 1000]) = 0) (hb : 0 ≤ b ∧ b ≤ 3) (hp : 0 ≤ p ∧ p ≤ 99) : sEr fourB fourH (d ++ [seE f 1000] ++ [ldE b f p]) = 9 ∧ sAt fourB fourH (d ++ [seE f 1000] ++ [ldE b f p]) = ((d ++ [seE f 1000]).length : Int) := by
  refine sealed_no h0 hl hr h1 ?_ rfl ?_ ?_ (fun S hS => ?_)
  · unfold ldE
    simp only [okEv, okEv0, okTons, okPort, Bool.and_eq_true, Bool.or_eq_true, decide_eq_true_eq, and_true, true_and]
    refine ⟨by omega, .inl (.inl (.inl (.inl ?_)))⟩
    omega
  · show ((false && _) || (true && decide ((4 : Int) ≤ f)) || (true && decide ((4 : Int) ≤ b))) = false
    rw [decide_eq_false (show ¬ (4 : Int) ≤ f by omega), decide_eq_false (show ¬ (4 : Int) ≤ b by omega)]; simp
  · show ((false && _) && _) = false; simp
  · show ((false && _) || (true && nth S.sealed f.toNat)) = true
    rw [hS]; simp
theorem un_no {d : List Ev} {f : Int} (h0 : sEr fourB fourH d = 0) (hl : d.length ≤ 30) (hr : 0 ≤ f ∧ f ≤ 3) (h1 : sEr fourB fourH (d ++ [seE f 1000]) = 0) : sEr fourB fourH (d ++ [seE f 1000] ++ [unE f]) = 9 ∧ sAt fourB fourH (d ++ [seE f 1000] ++ [unE f]) = ((d ++ [seE f 1000]).length : Int) := by
  refine sealed_no h0 hl hr h1 ?_ rfl ?_ ?_ (fun S hS => ?_)
  · unfold unE
    simp only [okEv, okEv0, okTons, okPort, Bool.and_eq_true, Bool.or_eq_true, decide_eq_true_eq, and_true, true_and]
    refine ⟨by omega, .inl (.inl (.inr ?_))⟩
    omega
  · show ((true && decide ((4 : Int) ≤ f)) || (false && _) || (false && _)) = false
    rw [decide_eq_false (show ¬ (4 : Int) ≤ f by omega)]; simp
  · show ((true && false) && _) = false; simp
  · show ((true && (nth S.sealed f.toNat != false)) || (false && _)) = true
    rw [hS]; simp
theorem se_no {d : List Ev} {f : Int} (h0 : sEr fourB fourH d = 0) (hl : d.length ≤ 30) (hr : 0 ≤ f ∧ f ≤ 3) (h1 : sEr fourB fourH (d ++ [seE f 1000]) = 0) : sEr fourB fourH (d ++ [seE f 1000] ++ [seE f 1001]) = 9 ∧ sAt fourB fourH (d ++ [seE f 1000] ++ [seE f 1001]) = ((d ++ [seE f 1000]).length : Int) := by
  refine sealed_no h0 hl hr h1 (seE_ok hr (by decide)) rfl ?_ ?_ (fun S hS => ?_)
  · show ((false && _) || (true && decide ((4 : Int) ≤ f)) || (false && _)) = false
    rw [decide_eq_false (show ¬ (4 : Int) ≤ f by omega)]; simp
  · show ((false && _) && _) = false; simp
  · show ((false && _) || (true && nth S.sealed f.toNat)) = true
    rw [hS]; simp
theorem br_yes {d : List Ev} {f : Int} (h0 : sEr fourB fourH d = 0) (hl : d.length ≤ 30) (hr : 0 ≤ f ∧ f ≤ 3) (h1 : sEr fourB fourH (d ++ [seE f 1000]) = 0) : sEr fourB fourH (d ++ [seE f 1000] ++ [brE f]) = 0 ∧ (sSt fourB fourH (d ++ [seE f 1000] ++ [brE f])).hold = (sSt fourB fourH d).hold := by
  obtain ⟨e1, e2⟩ := seal_yes h0 hl hr h1
  have hok1 := sail_ok h1
  have ho : okEv (brE f) = true := by
    unfold brE
    simp only [okEv, okEv0, okTons, okPort, Bool.and_eq_true, Bool.or_eq_true, decide_eq_true_eq, and_true, true_and]
    refine ⟨by omega, .inr ?_⟩
    first | omega | trivial | decide
  have hf4 : f.toNat < 4 := by omega
  have hlf : ∀ x ∈ nth (sSt fourB fourH (d ++ [seE f 1000])).hold f.toNat, LayOk (d ++ [seE f 1000]).length x := hok1.tons _ (nth_mem (by rw [hok1.hn]; exact hf4))
  have hge : 0 ≤ sumT (nth (sSt fourB fourH (d ++ [seE f 1000])).hold f.toNat) := by have := flatB_len (fun x hx => (hlf x hx).1); omega
  have hc : chkP fourB (fourH.map Hld.cap) (sSt fourB fourH (d ++ [seE f 1000])) (lastM 0 (d ++ [seE f 1000])) (brE f) = 0 := by
    rw [lastM_snoc]
    generalize sSt fourB fourH (d ++ [seE f 1000]) = S1 at *
    unfold chkP
    rw [if_neg (by show ¬ (101 : Int) < 100; omega), if_neg, if_neg, if_neg, if_neg, if_neg, if_neg]
    · show ¬ ((false && _) && _) = true; simp
    · show ¬ (true && decide (sumT (nth S1.hold f.toNat) < 0)) = true
      rw [decide_eq_false (show ¬ sumT (nth S1.hold f.toNat) < 0 by omega)]; decide
    · unfold chkKP
      rw [if_neg (by show ¬ (5 : Int) = 1; decide), if_neg (by show ¬ ((5 : Int) = 4 ∧ _); exact fun h => absurd h.1 (by decide))]
      decide
    · show ¬ ((true && (nth S1.sealed f.toNat != true)) || (false && _)) = true
      rw [e2]; simp
    · show ¬ ((true && false) && _) = true; simp
    · show ¬ ((true && decide ((4 : Int) ≤ f)) || (false && _) || (false && _)) = true
      rw [decide_eq_false (show ¬ (4 : Int) ≤ f by omega)]; simp
  obtain ⟨y1, y2⟩ := sail_yes h1 (by rw [List.length_append, List.length_singleton]; omega) ho hc
  refine ⟨y1, ?_⟩
  rw [y2, step5 rfl]
  exact e1

end Go.Proofs.Ytgkkgpenmppjcaa
