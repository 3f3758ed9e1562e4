/-
  No ton is twice on the river: plain. Conditions: none.
-/
import Derived.Test.YtblkphbblkncdaaD9
namespace Go.Proofs.Ytblkphbblkncdaa
open Go Go.RowKit

theorem ofT_app (a b : List Lay) (k : Int) : ofT (a ++ b) k = ofT a k + ofT b k := by unfold ofT; rw [List.filter_append, sumT_append]
theorem ofT_rev (l : List Lay) (k : Int) : ofT l.reverse k = ofT l k := by unfold ofT; rw [List.filter_reverse, sumT_rev]
theorem ofT_cons (x : Lay) (l : List Lay) (k : Int) : ofT (x :: l) k = (if x.bill = k then x.tons else 0) + ofT l k := by
  unfold ofT
  rw [List.filter_cons]
  by_cases h : x.bill = k <;> simp [h, sumT]
theorem ofT_nil (k : Int) : ofT [] k = 0 := rfl
theorem ofT_mov (e k : Int) : ∀ l : List Lay, ofT (l.map (movL e)) k = ofT l k
  | [] => rfl
  | x :: l => by
    rw [List.map_cons, ofT_cons, ofT_cons, ofT_mov e k l]
    rfl
theorem takR_of (k : Int) : ∀ (r : List Lay) (t : Int), ofT (takR r t).1 k + ofT (takR r t).2 k = ofT r k
  | [], t => by simp [takR, ofT, sumT]
  | x :: r, t => by
    simp only [takR]
    split
    · simp only [ofT_nil]; omega
    · split
      · simp only [ofT_cons, ofT_nil]; split <;> omega
      · have := takR_of k r (t - x.tons)
        simp only [ofT_cons]; omega
theorem takV_of {e : Int} (l : List Lay) (t k : Int) : ofT (takV l t).1 k + ofT ((takV l t).2.map (movL e)) k = ofT l k := by
  have := takR_of k l.reverse t
  rw [ofT_rev] at this
  rw [ofT_mov]
  show ofT (takR l.reverse t).1.reverse k + _ = _
  rw [ofT_rev]; exact this
theorem sumH_set (b : Int) (v : List Lay) : ∀ (hd : List (List Lay)) (i : Nat), i < hd.length → sumH b (hd.set i v) = sumH b hd - ofT (nth hd i) b + ofT v b
  | [], i, h => absurd h (Nat.not_lt_zero _)
  | l :: hd, 0, _ => by show ofT v b + sumH b hd = ofT l b + sumH b hd - ofT l b + ofT v b; omega
  | l :: hd, i + 1, h => by
    have := sumH_set b v hd i (by simpa using h)
    show ofT l b + sumH b (hd.set i v) = ofT l b + sumH b hd - ofT (nth hd i) b + ofT v b
    omega
theorem inS_snoc (b : Int) (P : Int → Bool) (l : List Lnd) (x : Lnd) : inS b P (l ++ [x]) = inS b P l + if P x.port = true then ofT x.parts b else 0 := by
  induction l with
  | nil => simp [inS]
  | cons a l ih => simp only [List.cons_append, inS, ih]; omega
/-- Each ton that was loaded is on board, or was landed. -/
def Cons (S : Stt) (k : Nat) : Prop := sumH (k : Int) S.hold + inS (k : Int) (fun _ => true) S.landed = nth S.loaded k
theorem Cons.step {bs : List Bil} {caps : List Int} {n : Nat} {S : Stt} {mi : Int} {x : Ev} {k : Nat} (h : Cons S k) (hs : StOk bs caps n S) (hk : k < bs.length) (hx : okEv x = true) (hc : EvOk bs caps S mi x) (e : Int) : Cons (stepF S x e) k := by
  have hr := okEv_rng hx
  unfold Cons at h ⊢
  by_cases k1 : x.kind = 1
  · rw [step1 k1]
    show sumH (k : Int) (S.hold.set _ _) + inS (k : Int) _ S.landed = nth (S.loaded.set _ _) k
    have ht : x.to.toNat < S.hold.length := by rw [hs.hn]; exact hc.to (by simp [useT, k1])
    have hb := hc.bill k1
    rw [sumH_set _ _ _ _ ht, ofT_snoc]
    show _ - _ + (_ + if x.bill = (k : Int) then x.tons else 0) + _ = _
    by_cases q : k = x.bill.toNat
    · subst q
      rw [nth_set_eq (by rw [hs.lsn]; exact hk), if_pos (by omega)]
      omega
    · rw [nth_set_ne q, if_neg (by omega)]
      omega
  by_cases k2 : x.kind = 2
  · obtain ⟨u1, u2⟩ := use2 k2
    rw [step2 k2]
    have hf : x.frm.toNat < S.hold.length := by rw [hs.hn]; exact hc.frm u1
    have ht : x.to.toNat < S.hold.length := by rw [hs.hn]; exact hc.to u2
    have hn := hc.ne k2
    show sumH (k : Int) ((S.hold.set _ _).set _ _) + inS (k : Int) _ S.landed = nth S.loaded k
    rw [sumH_set _ _ _ _ (by rw [List.length_set]; exact ht), sumH_set _ _ _ _ hf, nth_set_ne (fun q => hn q.symm), ofT_app]
    have := takV_of (e := e) (nth S.hold x.frm.toNat) x.tons (k : Int)
    omega
  by_cases k3 : x.kind = 3
  · have u1 : useF x = true := by simp [useF, k3]
    rw [step3 k3]
    have hf : x.frm.toNat < S.hold.length := by rw [hs.hn]; exact hc.frm u1
    show sumH (k : Int) (S.hold.set _ _) + inS (k : Int) _ (S.landed ++ [_]) = nth S.loaded k
    rw [sumH_set _ _ _ _ hf, inS_snoc, if_pos rfl]
    have := takV_of (e := e) (nth S.hold x.frm.toNat) x.tons (k : Int)
    show _ - _ + _ + (_ + ofT ((takV (nth S.hold (x.frm).toNat) x.tons).2.map (movL e)) (k : Int)) = _
    omega
  by_cases k4 : x.kind = 4
  · rw [step4 k4]; exact h
  · rw [step5 (by omega)]; exact h
theorem once_step {bs : List Bil} {hs : List Hld} {l : List Ev} (h : sEr bs hs l = 0) {i : Nat} (hi : i < l.length) : ∃ mi, EvOk bs (hs.map Hld.cap) (sSt bs hs (l.take i)) mi (nth l i) ∧ okEv (nth l i) = true ∧ sSt bs hs (l.take (i + 1)) = stepF (sSt bs hs (l.take i)) (nth l i) (i : Int) := by
  have h1 := (sail_take h i).1
  have h2 := (sail_take h (i + 1)).1
  obtain ⟨_, hl, ho⟩ := sail_inv h
  have hx := ho _ (nth_mem hi)
  have hn : (l.take i).length = i := by rw [List.length_take]; omega
  have e := sail_snoc h1 (by omega) hx
  unfold sEr at h2
  rw [take_nth hi, e] at h2
  by_cases hc : chkP bs (hs.map Hld.cap) (sSt bs hs (l.take i)) (lastM 0 (l.take i)) (nth l i) ≠ 0
  · rw [if_pos hc] at h2; exact absurd h2 hc
  · refine ⟨_, EvOk.of hx (Decidable.not_not.1 hc), hx, ?_⟩
    show (sailP bs hs (l.take (i + 1))).1 = _
    rw [take_nth hi, e, if_neg hc, hn]
theorem sail_cons {bs : List Bil} {hs : List Hld} {l : List Ev} (h : sEr bs hs l = 0) {k : Nat} (hk : k < bs.length) (h0 : Cons (sSt bs hs []) k) : ∀ i, i ≤ l.length → Cons (sSt bs hs (l.take i)) k
  | 0, _ => h0
  | i + 1, hi => by
    obtain ⟨mi, hc, hx, e⟩ := once_step h (show i < l.length by omega)
    rw [e]
    exact (sail_cons h hk h0 i (by omega)).step (sail_ok (sail_take h i).1) hk hx hc _
/-- The state after the first i events. -/
def sI (xs : List X5) (i : Nat) : Stt := sSt fourB fourH ((done xs).take i)
theorem cons_done {xs : List X5} {k : Nat} (hk : k < 4) : Cons (sSt fourB fourH (done xs)) k := by
  have h0 : ∀ k, k < 4 → Cons (sSt fourB fourH []) k := by
    have : ∀ k : Nat, k < 4 → sumH (k : Int) (sSt fourB fourH []).hold + inS (k : Int) (fun _ => true) (sSt fourB fourH []).landed = nth (sSt fourB fourH []).loaded k := by decide
    exact this
  have := sail_cons (done_ok (xs := xs)) (show k < fourB.length from hk) (h0 k hk) (done xs).length (Nat.le_refl _)
  rwa [List.take_length] at this
theorem sI_ok {xs : List X5} {i : Nat} : StOk fourB (fourH.map Hld.cap) ((done xs).take i).length (sI xs i) := sail_ok (sail_take done_ok i).1
theorem sI_end {xs : List X5} {i : Nat} (h : i = (done xs).length) : sI xs i = sSt fourB fourH (done xs) := by unfold sI; rw [h, List.take_length]
theorem sI_load {xs : List X5} {i k : Nat} (hi : i < (done xs).length) (hk : k < 4) : nth (sI xs (i + 1)).loaded k = nth (sI xs i).loaded k + (if (nth (done xs) i).kind = 1 ∧ (nth (done xs) i).bill = (k : Int) then (nth (done xs) i).tons else 0) := by
  obtain ⟨mi, hc, hx, e⟩ := once_step (done_ok (xs := xs)) hi
  have hr := okEv_rng hx
  show nth (sSt _ _ _).loaded k = nth (sSt _ _ _).loaded k + _
  rw [e]
  generalize hS : sSt fourB fourH ((done xs).take i) = S at *
  generalize nth (done xs) i = x at *
  by_cases k1 : x.kind = 1
  · rw [step1 k1]
    show nth (S.loaded.set _ _) k = _
    by_cases q : k = x.bill.toNat
    · subst q
      have hl : S.loaded.length = fourB.length := by rw [← hS]; exact (sI_ok (xs := xs) (i := i)).lsn
      rw [nth_set_eq (by rw [hl]; exact hk), if_pos ⟨k1, by omega⟩]
    · rw [nth_set_ne q, if_neg (fun h => q (by omega))]
      omega
  · rw [if_neg (fun h => k1 h.1), Int.add_zero]
    by_cases k2 : x.kind = 2
    · rw [step2 k2]
    by_cases k3 : x.kind = 3
    · rw [step3 k3]
    by_cases k4 : x.kind = 4
    · rw [step4 k4]
    · rw [step5 (by omega)]
theorem sI_same {xs : List X5} {i : Nat} (hi : i < (done xs).length) (hk : (nth (done xs) i).kind ≠ 3) : (sI xs (i + 1)).landed = (sI xs i).landed := by
  obtain ⟨mi, hc, hx, e⟩ := once_step (done_ok (xs := xs)) hi
  have hr := okEv_rng hx
  show (sSt _ _ _).landed = (sSt _ _ _).landed
  rw [e]
  generalize nth (done xs) i = x at *
  by_cases k1 : x.kind = 1
  · rw [step1 k1]
  by_cases k2 : x.kind = 2
  · rw [step2 k2]
  by_cases k4 : x.kind = 4
  · rw [step4 k4]
  · rw [step5 (by omega)]
theorem sI_land {xs : List X5} {i : Nat} (hi : i < (done xs).length) (hk : (nth (done xs) i).kind = 3) : ∃ ps, findL (sSt fourB fourH (done xs)).landed (i : Int) = some ps ∧ sumT ps = (nth (done xs) i).tons ∧ (∀ x ∈ ps, 1 ≤ x.tons ∧ x.tons ≤ 1000000) ∧ (sI xs (i + 1)).landed = (sI xs i).landed ++ [⟨(i : Int), (nth (done xs) i).port, ps⟩] := by
  obtain ⟨mi, hc, hx, e⟩ := once_step (done_ok (xs := xs)) hi
  have hr := okEv_rng hx
  have hso := sI_ok (xs := xs) (i := i)
  have uF : useF (nth (done xs) i) = true := by simp [useF, hk]
  have hhas := hc.has uF
  have hl : ∀ y ∈ nth (sI xs i).hold (nth (done xs) i).frm.toNat, LayOk ((done xs).take i).length y := hso.tons _ (nth_mem (by rw [hso.hn]; exact hc.frm uF))
  have sp := takV_spec hl (by have := hr.2.2.2.2.2.2.1 (by omega); omega) hhas
  rw [step3 hk] at e
  have e2 : (sI xs (i + 1)).landed = (sI xs i).landed ++ [⟨(i : Int), (nth (done xs) i).port, (takV (nth (sI xs i).hold (nth (done xs) i).frm.toNat) (nth (done xs) i).tons).2.map (movL (i : Int))⟩] := by
    show (sSt _ _ _).landed = _
    rw [e]; rfl
  refine ⟨_, ?_, (sumT_mov _ _).trans sp.2.1, fun x hx => ?_, e2⟩
  · obtain ⟨m, hm⟩ := (sail_take (done_ok (xs := xs)) (i + 1)).2
    rw [hm]
    refine find_pre ?_
    have hn := find_none (sail_path (sail_take (done_ok (xs := xs)) i).1) (i := i) (by rw [List.length_take]; omega)
    rw [show (sSt fourB fourH ((done xs).take (i + 1))).landed = _ from e2]
    unfold findL at hn ⊢
    rw [List.find?_append]
    have hn2 : (sI xs i).landed.find? (fun x => decide (x.ev = (i : Int))) = none := by
      cases hf : (sI xs i).landed.find? (fun x => decide (x.ev = (i : Int))) with
      | none => rfl
      | some p => have hf' : (sSt fourB fourH ((done xs).take i)).landed.find? (fun x => decide (x.ev = (i : Int))) = some p := hf; rw [hf'] at hn; cases hn
    rw [hn2]
    simp
  · obtain ⟨y, hy, rfl⟩ := List.mem_map.1 hx
    have := sp.2.2.2 y hy
    exact ⟨this.1, this.2.1⟩
/-- How many tons of a bill were landed in each port. -/
def ldA (k : Nat) (ld : List Lnd) : List Int := (List.range 100).map fun (p : Nat) => inS (k : Int) (fun q => decide (q = (p : Int))) ld
theorem ldA_nth {k p : Nat} {ld : List Lnd} (hp : p < 100) : nth (ldA k ld) p = inS (k : Int) (fun q => decide (q = (p : Int))) ld := by
  unfold ldA
  rw [nth_map _ (by rw [List.length_range]; exact hp), nth_eq (by rw [List.length_range]; exact hp), List.getElem_range]
theorem ldA_snoc {k p : Nat} {ld : List Lnd} {x : Lnd} (hp : x.port = (p : Int)) (h : p < 100) : ldA k (ld ++ [x]) = (ldA k ld).set p (nth (ldA k ld) p + ofT x.parts (k : Int)) := by
  refine List.ext_getElem (by simp [ldA]) fun j h1 h2 => ?_
  have hj : j < 100 := by simpa [ldA] using h1
  rw [← nth_eq h1, ← nth_eq h2, ldA_nth hj, inS_snoc, hp]
  by_cases e : j = p
  · subst e
    rw [nth_set_eq (by simpa [ldA] using hj), ldA_nth hj, if_pos (by simp)]
  · rw [nth_set_ne e, ldA_nth hj, if_neg (by simp; omega), Int.add_zero]
theorem ldA_zero {k p : Nat} {ld : List Lnd} {x : Lnd} (h : ofT x.parts (k : Int) = 0) : ldA k (ld ++ [x]) = ldA k ld := by
  unfold ldA
  refine List.map_congr_left fun p _ => ?_
  rw [inS_snoc, h]; simp
theorem recF_snoc {b : Int} {ld : List Lnd} {x : Lnd} : recF (ld ++ [x]) b = recF ld b ++ if 0 < ofT x.parts b then [x.ev] else [] := by
  unfold recF
  rw [List.filter_append, List.map_append]
  by_cases h : 0 < ofT x.parts b <;> simp [h]
theorem inS_rng {b : Int} {Q : Int → Bool} : ∀ {l : List Lnd}, (∀ q ∈ l, 0 ≤ ofT q.parts b ∧ ofT q.parts b ≤ 1000000) → 0 ≤ inS b Q l ∧ inS b Q l ≤ 1000000 * l.length
  | [], _ => by simp [inS]
  | x :: l, h => by
    have h1 := inS_rng (Q := Q) (l := l) (fun q hq => h q (List.mem_cons_of_mem _ hq))
    have h2 := h x (by simp)
    have e : ((x :: l).length : Int) = l.length + 1 := by simp
    rw [e]
    unfold inS
    split <;> omega
/-- The sum of all parts, or of those in one kind of place. -/
def sumW (q : Int) : List Shr → Int
  | [] => 0
  | x :: l => (if q < 0 ∨ x.wh = q then x.tons else 0) + sumW q l
theorem sumW_app (q : Int) (a b : List Shr) : sumW q (a ++ b) = sumW q a + sumW q b := by
  induction a with
  | nil => simp [sumW]
  | cons x a ih => simp only [List.cons_append, sumW, ih]; omega
theorem sumW_take {q : Int} {l : List Shr} {k : Nat} (hk : k < l.length) : sumW q (l.take (k + 1)) = sumW q (l.take k) + if q < 0 ∨ (nth l k).wh = q then (nth l k).tons else 0 := by
  rw [take_nth hk, sumW_app]; simp [sumW]
theorem sumW_pos {q : Int} : ∀ {l : List Shr}, (∀ x ∈ l, 1 ≤ x.tons) → 0 ≤ sumW q l
  | [], _ => Int.le_refl _
  | x :: l, h => by
    have h1 := sumW_pos (q := q) (l := l) (fun y hy => h y (List.mem_cons_of_mem _ hy))
    have h2 := h x (by simp)
    unfold sumW
    split <;> omega
theorem sumW_le {q : Int} {l : List Shr} {k : Nat} (h : ∀ x ∈ l, 1 ≤ x.tons) : 0 ≤ sumW q (l.take k) ∧ sumW q (l.take k) ≤ sumW q l := by
  refine ⟨sumW_pos fun x hx => h x (List.mem_of_mem_take hx), ?_⟩
  have e := congrArg (sumW q) (List.take_append_drop k l)
  rw [sumW_app] at e
  have := sumW_pos (q := q) (l := l.drop k) (fun x hx => h x (List.mem_of_mem_drop hx))
  omega
def sumN (f : Nat → Int) : Nat → Int
  | 0 => 0
  | n + 1 => sumN f n + f n
theorem sumW_flat {q w : Int} {f : Nat → Int} (h : ∀ i, 0 ≤ f i) : ∀ n, sumW q ((List.range n).flatMap fun (i : Nat) => one w (i : Int) (f i)) = if q < 0 ∨ w = q then sumN f n else 0
  | 0 => by simp [sumW, sumN]
  | n + 1 => by
    have := h n
    rw [List.range_succ, List.flatMap_append, sumW_app, sumW_flat h n]
    have e : sumW q (List.flatMap (fun (i : Nat) => one w (i : Int) (f i)) [n]) = if q < 0 ∨ w = q then f n else 0 := by
      simp only [List.flatMap_cons, List.flatMap_nil, List.append_nil]
      unfold one
      by_cases h0 : 0 < f n
      · rw [if_pos h0]; simp [sumW]
      · rw [if_neg h0, show f n = 0 by omega]; simp [sumW]
    rw [e]
    have e3 : sumN f (n + 1) = sumN f n + f n := rfl
    rw [e3]
    by_cases hq : q < 0 ∨ w = q
    · rw [if_pos hq, if_pos hq, if_pos hq]
    · rw [if_neg hq, if_neg hq, if_neg hq]; rfl
theorem sumN_hold {b : Int} {hd : List (List Lay)} : ∀ n, n ≤ hd.length → sumN (fun i => ofT (nth hd i) b) n = sumH b (hd.take n)
  | 0, _ => by simp [sumN, sumH]
  | n + 1, h => by
    rw [take_nth (by omega), sumH_snoc, ← sumN_hold n (by omega)]; rfl
theorem sumN_add {f g : Nat → Int} : ∀ n, sumN (fun i => f i + g i) n = sumN f n + sumN g n
  | 0 => rfl
  | n + 1 => by
    have := sumN_add (f := f) (g := g) n
    show sumN _ n + (f n + g n) = sumN f n + f n + (sumN g n + g n)
    omega
theorem sumN_one {q t : Int} (h0 : 0 ≤ q) : ∀ n : Nat, sumN (fun p => if decide (q = (p : Int)) = true then t else 0) n = if q < (n : Int) then t else 0
  | 0 => by rw [if_neg (by omega)]; rfl
  | n + 1 => by
    show sumN _ n + _ = _
    rw [sumN_one h0 n]
    show (if q < (n : Int) then t else 0) + (if decide (q = (n : Int)) = true then t else 0) = _
    by_cases e : q = (n : Int)
    · rw [if_neg (by omega), if_pos (by simp [e]), if_pos (by omega), Int.zero_add]
    · rw [if_neg (show ¬ decide (q = (n : Int)) = true by simp [e]), Int.add_zero]
      by_cases e2 : q < (n : Int)
      · rw [if_pos e2, if_pos (by omega)]
      · rw [if_neg e2, if_neg (by omega)]
theorem sumN_nil : ∀ n, sumN (fun _ => 0) n = 0
  | 0 => rfl
  | n + 1 => by show sumN _ n + 0 = 0; rw [sumN_nil n]; rfl
theorem sumN_land {b : Int} : ∀ {ld : List Lnd}, (∀ l ∈ ld, 0 ≤ l.port ∧ l.port ≤ 99) → sumN (fun p => inS b (fun q => decide (q = (p : Int))) ld) 100 = inS b (fun _ => true) ld
  | [], _ => sumN_nil 100
  | x :: ld, h => by
    have ih := sumN_land (b := b) (ld := ld) (fun l hl => h l (List.mem_cons_of_mem _ hl))
    have hx := h x (by simp)
    have := sumN_add (f := fun p => if decide (x.port = (p : Int)) = true then ofT x.parts b else 0) (g := fun p => inS b (fun q => decide (q = (p : Int))) ld) 100
    show sumN (fun p => (if decide (x.port = (p : Int)) = true then ofT x.parts b else 0) + inS b (fun q => decide (q = (p : Int))) ld) 100 = (if true = true then ofT x.parts b else 0) + inS b (fun _ => true) ld
    rw [this, ih, sumN_one hx.1, if_pos (by omega), if_pos rfl]
theorem one_mem {a n t : Int} {s : Shr} (h : s ∈ one a n t) : s = ⟨a, n, t⟩ ∧ 0 < t := by
  unfold one at h
  split at h
  · exact ⟨by simpa using h, by assumption⟩
  · cases h
theorem inS_two {b p : Int} : ∀ l : List Lnd, inS b (fun q => decide (q = p)) l + inS b (fun q => !decide (q = p)) l = inS b (fun _ => true) l
  | [] => rfl
  | x :: l => by
    have := inS_two (b := b) (p := p) l
    unfold inS
    by_cases h : x.port = p
    · rw [if_pos (by simp [h]), if_neg (by simp [h]), if_pos rfl]; omega
    · rw [if_neg (by simp [h]), if_pos (by simp [h]), if_pos rfl]; omega
/-- All that the law asks of where a bill's tons are. -/
structure WhOk (S : Stt) (k : Nat) (w : List Shr) : Prop where
  mem : ∀ s ∈ w, 1 ≤ s.tons ∧ ((s.wh = 0 ∧ s.num = 0 ∧ s.tons = (nth fourB k).tons - nth S.loaded k) ∨ (s.wh = 1 ∧ 0 ≤ s.num ∧ s.num ≤ 3 ∧ s.tons = ofT (nth S.hold s.num.toNat) (k : Int)) ∨ (s.wh = 2 ∧ 0 ≤ s.num ∧ s.num ≤ 99 ∧ s.tons = nth (ldA k S.landed) s.num.toNat))
  asc : ∀ i, 0 < i → i < w.length → (nth w (i - 1)).wh < (nth w i).wh ∨ ((nth w (i - 1)).wh = (nth w i).wh ∧ (nth w (i - 1)).num < (nth w i).num)
  all : sumW (-1) w = (nth fourB k).tons
  abd : sumW 1 w = sumH (k : Int) S.hold
  len : w.length ≤ 1000000
theorem wh_ok {n : Nat} {S : Stt} (h : StOk fourB (fourH.map Hld.cap) n S) {k : Nat} (hk : k < 4) (hc : Cons S k) : WhOk S k (whP fourB S (k : Int)) := by
  have hh : S.hold.length = 4 := h.hn
  have h1 : ∀ i, 0 ≤ ofT (nth S.hold i) (k : Int) := fun i => by
    refine (ofT_le fun x hx => ?_).1
    rcases Nat.lt_or_ge i S.hold.length with q | q
    · have := h.tons _ (nth_mem q) x hx
      have := this.1; omega
    · rw [nth_oor q] at hx; cases hx
  have h2 : ∀ Q, 0 ≤ inS (k : Int) Q S.landed := fun Q => (inS_rng (fun q hq => by
    have := h.ldt q hq
    have h3 := ofT_le (l := q.parts) (b := (k : Int)) (fun x hx => by have := (this.1 x hx).1; omega)
    omega)).1
  have hl := h.lsr k (by rw [h.lsn]; exact hk)
  have ek : ((k : Int)).toNat = k := Int.toNat_natCast k
  have mem : ∀ s ∈ whP fourB S (k : Int), 1 ≤ s.tons ∧ ((s.wh = 0 ∧ s.num = 0 ∧ s.tons = (nth fourB k).tons - nth S.loaded k) ∨ (s.wh = 1 ∧ 0 ≤ s.num ∧ s.num ≤ 3 ∧ s.tons = ofT (nth S.hold s.num.toNat) (k : Int)) ∨ (s.wh = 2 ∧ 0 ≤ s.num ∧ s.num ≤ 99 ∧ s.tons = nth (ldA k S.landed) s.num.toNat)) := fun s hs => by
    unfold whP at hs
    rw [ek] at hs
    rcases List.mem_append.1 hs with hs | hs
    · rcases List.mem_append.1 hs with hs | hs
      · obtain ⟨rfl, h0⟩ := one_mem hs
        exact ⟨h0, .inl ⟨rfl, rfl, rfl⟩⟩
      · obtain ⟨i, hi, hs⟩ := List.mem_flatMap.1 hs
        have := List.mem_range.1 hi
        obtain ⟨rfl, h0⟩ := one_mem hs
        refine ⟨h0, .inr (.inl ⟨rfl, by show 0 ≤ (i : Int); omega, by show (i : Int) ≤ 3; omega, ?_⟩)⟩
        show _ = ofT (nth S.hold ((i : Int)).toNat) _
        rw [Int.toNat_natCast]
    · obtain ⟨i, hi, hs⟩ := List.mem_flatMap.1 hs
      have := List.mem_range.1 hi
      obtain ⟨rfl, h0⟩ := one_mem hs
      refine ⟨h0, .inr (.inr ⟨rfl, by show 0 ≤ (i : Int); omega, by show (i : Int) ≤ 99; omega, ?_⟩)⟩
      show _ = nth _ ((i : Int)).toNat
      rw [Int.toNat_natCast, ldA_nth this]
  have pw1 : ∀ (w : Int) (f : Nat → Int) (n : Nat), ((List.range n).flatMap fun (i : Nat) => one w (i : Int) (f i)).Pairwise (fun x y => x.wh < y.wh ∨ (x.wh = y.wh ∧ x.num < y.num)) := fun w f n => by
    rw [List.pairwise_flatMap]
    refine ⟨fun i _ => by unfold one; split <;> simp, ?_⟩
    refine List.pairwise_lt_range.imp fun {a b} hab x hx y hy => ?_
    obtain ⟨rfl, _⟩ := one_mem hx
    obtain ⟨rfl, _⟩ := one_mem hy
    exact .inr ⟨rfl, by show (a : Int) < b; omega⟩
  have pw : (whP fourB S (k : Int)).Pairwise (fun x y => x.wh < y.wh ∨ (x.wh = y.wh ∧ x.num < y.num)) := by
    unfold whP
    rw [List.pairwise_append, List.pairwise_append]
    refine ⟨⟨by unfold one; split <;> simp, pw1 _ _ _, fun x hx y hy => ?_⟩, pw1 _ _ _, fun x hx y hy => ?_⟩
    · obtain ⟨i, hi, hy⟩ := List.mem_flatMap.1 hy
      obtain ⟨rfl, _⟩ := one_mem hx
      obtain ⟨rfl, _⟩ := one_mem hy
      exact .inl (by show (0 : Int) < 1; decide)
    · obtain ⟨i, hi, hy⟩ := List.mem_flatMap.1 hy
      obtain ⟨rfl, _⟩ := one_mem hy
      rcases List.mem_append.1 hx with hx | hx
      · obtain ⟨rfl, _⟩ := one_mem hx
        exact .inl (by show (0 : Int) < 2; decide)
      · obtain ⟨j, hj, hx⟩ := List.mem_flatMap.1 hx
        obtain ⟨rfl, _⟩ := one_mem hx
        exact .inl (by show (1 : Int) < 2; decide)
  refine ⟨mem, fun i h0 hi => ?_, ?_, ?_, ?_⟩
  · have := List.pairwise_iff_getElem.1 pw (i - 1) i (by omega) hi (by omega)
    rwa [← nth_eq, ← nth_eq] at this
  · have e0 : sumW (-1) (one 0 0 ((nth fourB k).tons - nth S.loaded k)) = (nth fourB k).tons - nth S.loaded k := by
      unfold one
      by_cases q : 0 < (nth fourB k).tons - nth S.loaded k
      · rw [if_pos q]; simp [sumW]
      · rw [if_neg q]; show (0 : Int) = _; omega
    unfold whP
    rw [ek, sumW_app, sumW_app, sumW_flat (fun i => h1 i), sumW_flat (fun i => h2 _), if_pos (.inl (by decide)), if_pos (.inl (by decide)), e0, sumN_hold _ (Nat.le_refl _), List.take_length, sumN_land (fun l hl => (h.ldt l hl).2.2.2)]
    unfold Cons at hc
    omega
  · have e0 : sumW 1 (one 0 0 ((nth fourB k).tons - nth S.loaded k)) = 0 := by
      unfold one
      split <;> simp [sumW]
    unfold whP
    rw [ek, sumW_app, sumW_app, sumW_flat (fun i => h1 i), sumW_flat (fun i => h2 _), if_pos (.inr rfl), if_neg (by omega), e0, sumN_hold _ (Nat.le_refl _), List.take_length]
    omega
  · have hone : ∀ a b c : Int, (one a b c).length ≤ 1 := fun a b c => by unfold one; split <;> simp
    have hfl : ∀ (w : Int) (f : Nat → Int) (n : Nat), ((List.range n).flatMap fun (i : Nat) => one w (i : Int) (f i)).length ≤ n := fun w f n => by
      induction n with
      | zero => simp
      | succ n ih =>
        rw [List.range_succ, List.flatMap_append, List.length_append]
        have : (List.flatMap (fun (i : Nat) => one w (i : Int) (f i)) [n]).length ≤ 1 := by simpa using hone w n (f n)
        omega
    unfold whP
    rw [List.length_append, List.length_append]
    have a1 := hone 0 0 ((nth fourB ((k : Int)).toNat).tons - nth S.loaded ((k : Int)).toNat)
    have a2 := hfl 1 (fun i => ofT (nth S.hold i) (k : Int)) S.hold.length
    have a3 := hfl 2 (fun p => inS (k : Int) (fun q => decide (q = (p : Int))) S.landed) 100
    omega
theorem sI_load0 {xs : List X5} : ∀ {k : Nat}, k < 4 → nth (sI xs 0).loaded k = 0 := by
  have : ∀ k : Nat, k < 4 → nth (sSt fourB fourH []).loaded k = 0 := by decide
  intro k hk
  unfold sI
  rw [List.take_zero]; exact this k hk
theorem sI_land0 {xs : List X5} : (sI xs 0).landed = [] := by
  unfold sI
  rw [List.take_zero]; rfl
theorem ldA_0 {k : Nat} : ldA k [] = List.replicate 100 0 := by
  unfold ldA
  refine List.ext_getElem (by simp) fun j h1 h2 => ?_
  rw [List.getElem_replicate, List.getElem_map]; rfl
theorem ldA_len {k : Nat} {ld : List Lnd} : (ldA k ld).length = 100 := by simp [ldA]
theorem ldA_rng {xs : List X5} {i k p : Nat} (hp : p < 100) : 0 ≤ nth (ldA k (sI xs i).landed) p ∧ nth (ldA k (sI xs i).landed) p ≤ 1000000000 := by
  have h := sI_ok (xs := xs) (i := i)
  rw [ldA_nth hp]
  have h1 := inS_rng (b := (k : Int)) (Q := fun q => decide (q = (p : Int))) (l := (sI xs i).landed) (fun q hq => by
    have := h.ldt q hq
    have h3 := ofT_le (l := q.parts) (b := (k : Int)) (fun x hx => by have := (this.1 x hx).1; omega)
    omega)
  have h2 := h.ldn
  rw [List.length_take] at h2
  have h3 := done_len (xs := xs)
  omega
theorem four_rng : ∀ k : Nat, k < 4 → (1 ≤ (nth fourB k).tons ∧ (nth fourB k).tons ≤ 400) ∧ 0 ≤ (nth fourB k).to ∧ (nth fourB k).to ≤ 99 := by decide
/-- All that the law asks of the counts of a bill. -/
structure CoOk (S : Stt) (k : Nat) (c : Cnt) : Prop where
  lo : c.loaded = nth S.loaded k
  ab : c.aboard = sumH (k : Int) S.hold
  ld : c.landed = nth (ldA k S.landed) (nth fourB k).to.toNat
  sum : c.loaded = c.aboard + c.landed + c.astray
  pos : 0 ≤ c.aboard ∧ 0 ≤ c.landed ∧ 0 ≤ c.astray
  top : c.loaded ≤ (nth fourB k).tons
theorem co_ok {n : Nat} {S : Stt} (h : StOk fourB (fourH.map Hld.cap) n S) {k : Nat} (hk : k < 4) (hc : Cons S k) {rs : List Cnt} (hr : rs = (List.range fourB.length).map (coP fourB S)) : CoOk S k (nth rs k) := by
  have hl := h.lsr k (by rw [h.lsn]; exact hk)
  have h4 := four_rng k hk
  have e : nth rs k = coP fourB S k := by
    rw [hr, nth_map _ (by rw [List.length_range]; exact hk), nth_eq (by rw [List.length_range]; exact hk), List.getElem_range]
  have hh : ∀ l ∈ S.hold, 0 ≤ ofT l (k : Int) := fun l hl => (ofT_le fun x hx => by have := (h.tons l hl x hx).1; omega).1
  have h2 : ∀ Q, 0 ≤ inS (k : Int) Q S.landed := fun Q => (inS_rng (fun q hq => by
    have := h.ldt q hq
    have h3 := ofT_le (l := q.parts) (b := (k : Int)) (fun x hx => by have := (this.1 x hx).1; omega)
    omega)).1
  have hs : ∀ {L : List (List Lay)}, (∀ l ∈ L, 0 ≤ ofT l (k : Int)) → 0 ≤ sumH (k : Int) L := fun {L} => by
    induction L with
    | nil => exact fun _ => Int.le_refl _
    | cons a L ih =>
      intro q
      have h1 := ih (fun l hl => q l (List.mem_cons_of_mem _ hl))
      have h2 := q a (by simp)
      show 0 ≤ ofT a (k : Int) + sumH (k : Int) L
      omega
  have t := inS_two (b := (k : Int)) (p := (nth fourB k).to) S.landed
  unfold Cons at hc
  rw [e]
  refine ⟨rfl, rfl, ?_, ?_, ⟨hs hh, h2 _, h2 _⟩, hl.2⟩
  · rw [ldA_nth (by omega)]
    show inS _ _ _ = _
    rw [show (((nth fourB k).to.toNat : Nat) : Int) = (nth fourB k).to by omega]
  · show nth S.loaded k = sumH (k : Int) S.hold + inS (k : Int) (fun q => decide (q = (nth fourB k).to)) S.landed + inS (k : Int) (fun q => !decide (q = (nth fourB k).to)) S.landed
    omega

end Go.Proofs.Ytblkphbblkncdaa
