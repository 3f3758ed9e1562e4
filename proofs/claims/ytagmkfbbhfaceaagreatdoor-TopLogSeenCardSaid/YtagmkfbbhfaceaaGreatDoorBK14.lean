/-
  Part 14 of the proof: contracts and plain laws. Conditions: none.
-/
import Derived.Test.YtagmkfbbhfaceaaGreatDoorBK13
namespace Go.Proofs.YtagmkfbbhfaceaaGreatDoor
open Go Go.RowKit
set_option maxRecDepth 10000

/-- A link: a variable is at most so much greater than another one. -/
structure Lnk where
  f : Int
  t : Int
  m : Int
instance : Inhabited Lnk := ⟨⟨default, default, default⟩⟩
/-- By how much each variable can be greater, by which link, and a variable that has changed. -/
structure Rch where
  m : List Int
  b : List Int
  ring : Int
instance : Inhabited Rch := ⟨⟨default, default, default⟩⟩
def far9 : Int := 1099511627776
def rlxWC (xs : List Lnk) (i : Nat) (s : Rch) : Prop := nth s.m (nth xs i).f.toNat < far9 ∧ nth s.m (nth xs i).f.toNat + (nth xs i).m < nth s.m (nth xs i).t.toNat
instance (xs : List Lnk) (i : Nat) (s : Rch) : Decidable (rlxWC xs i s) := inferInstanceAs (Decidable (_ ∧ _))
def rlxW (xs : List Lnk) (i : Nat) (s : Rch) : Rch := if rlxWC xs i s then ⟨s.m.set (nth xs i).t.toNat (nth s.m (nth xs i).f.toNat + (nth xs i).m), s.b.set (nth xs i).t.toNat (i : Int), (nth xs i).t⟩ else s
def pasW (xs : List Lnk) (s : Rch) : Nat → Rch
  | 0 => ⟨s.m, s.b, -1⟩
  | k + 1 => rlxW xs k (pasW xs s k)
def runW (xs : List Lnk) : Nat → Rch → Rch
  | 0, s => s
  | k + 1, s => if (pasW xs s xs.length).ring < 0 then pasW xs s xs.length else runW xs k (pasW xs s xs.length)
def iniV (fr : Int) (v : Nat) : Int := if (v : Int) = fr ∨ fr < 0 then 0 else far9
def iniW (n : Nat) (fr : Int) : Rch := ⟨(List.range n).map (iniV fr), List.replicate n (-1), 0⟩
def rchW (n : Nat) (xs : List Lnk) (fr : Int) : Rch := runW xs n (iniW n fr)
def okLnk (n : Nat) (l : Lnk) : Prop := (0 ≤ l.f ∧ l.f < (n : Int)) ∧ (0 ≤ l.t ∧ l.t < (n : Int)) ∧ (-2000000 ≤ l.m ∧ l.m ≤ 2000000)
theorem nthW_set {l : List Int} {i j : Nat} {a : Int} (h : i < l.length) : nth (l.set i a) j = if j = i then a else nth l j := by
  by_cases e : j = i
  · subst e; rw [if_pos rfl]; simp [nth, List.getD_eq_getElem?_getD, h]
  · rw [if_neg e]; simp [nth, List.getD_eq_getElem?_getD, List.getElem?_set_ne (Ne.symm e)]
theorem pasW_len (xs : List Lnk) (s : Rch) : ∀ k, (pasW xs s k).m.length = s.m.length ∧ (pasW xs s k).b.length = s.b.length
  | 0 => ⟨rfl, rfl⟩
  | k + 1 => by
    have ih := pasW_len xs s k
    show (rlxW xs k (pasW xs s k)).m.length = _ ∧ (rlxW xs k (pasW xs s k)).b.length = _
    unfold rlxW
    split
    · exact ⟨by rw [List.length_set]; exact ih.1, by rw [List.length_set]; exact ih.2⟩
    · exact ih
theorem runW_len (xs : List Lnk) : ∀ k s, (runW xs k s).m.length = s.m.length ∧ (runW xs k s).b.length = s.b.length
  | 0, _ => ⟨rfl, rfl⟩
  | k + 1, s => by
    rw [runW]
    split
    · exact pasW_len xs s _
    · have h1 := runW_len xs k (pasW xs s xs.length); have h2 := pasW_len xs s xs.length
      exact ⟨h1.1.trans h2.1, h1.2.trans h2.2⟩
/-- Values lie between a bound that sinks pass by pass and far. -/
theorem pasW_bd {xs : List Lnk} {n : Nat} (hx : ∀ l ∈ xs, okLnk n l) {s : Rch} (hl : s.m.length = n) {B : Int} (h : ∀ x ∈ s.m, -B ≤ x ∧ x ≤ far9) : ∀ k, k ≤ xs.length → ∀ x ∈ (pasW xs s k).m, -B - 2000000 * (k : Int) ≤ x ∧ x ≤ far9
  | 0, _, x, hm => by have := h x hm; omega
  | k + 1, hk, x, hm => by
    have ih := pasW_bd hx hl h k (by omega)
    have hlen := (pasW_len xs s k).1
    have ha := hx _ (nth_mem (xs := xs) (i := k) (by omega))
    unfold okLnk at ha
    have hm2 : x ∈ (rlxW xs k (pasW xs s k)).m := hm
    unfold rlxW at hm2
    split at hm2
    · rename_i hc
      rcases List.mem_or_eq_of_mem_set hm2 with q | q
      · have := ih x q; omega
      · have h1 := ih _ (nth_mem (xs := (pasW xs s k).m) (i := (nth xs k).f.toNat) (by omega))
        have h2 := ih _ (nth_mem (xs := (pasW xs s k).m) (i := (nth xs k).t.toNat) (by omega))
        have h3 := hc.2
        rw [q]; omega
    · have := ih x hm2; omega
/-- One link more changes one value, to a smaller one. -/
theorem rlxW_le {xs : List Lnk} {n : Nat} {i : Nat} {s : Rch} (hi : okLnk n (nth xs i)) (hl : s.m.length = n) (v : Nat) : nth (rlxW xs i s).m v ≤ nth s.m v := by
  unfold rlxW
  split
  · rename_i hc
    show nth (s.m.set _ _) v ≤ _
    unfold okLnk at hi
    rw [nthW_set (by omega)]
    split
    · rename_i e; have := hc.2; rw [e]; omega
    · exact Int.le_refl _
  · exact Int.le_refl _
theorem rlxW_at {xs : List Lnk} {n : Nat} {i : Nat} {s : Rch} (hi : okLnk n (nth xs i)) (hl : s.m.length = n) (hf : nth s.m (nth xs i).f.toNat < far9) : nth (rlxW xs i s).m (nth xs i).t.toNat ≤ nth s.m (nth xs i).f.toNat + (nth xs i).m := by
  unfold rlxW
  unfold okLnk at hi
  split
  · rw [show (Rch.m ⟨s.m.set (nth xs i).t.toNat (nth s.m (nth xs i).f.toNat + (nth xs i).m), s.b.set (nth xs i).t.toNat (i : Int), (nth xs i).t⟩) = s.m.set (nth xs i).t.toNat (nth s.m (nth xs i).f.toNat + (nth xs i).m) from rfl, nthW_set (by omega), if_pos rfl]; exact Int.le_refl _
  · rename_i hc; unfold rlxWC at hc; omega
theorem pasW_anti {xs : List Lnk} {n : Nat} (hx : ∀ l ∈ xs, okLnk n l) {s : Rch} (hl : s.m.length = n) (v : Nat) : ∀ k j, j ≤ k → k ≤ xs.length → nth (pasW xs s k).m v ≤ nth (pasW xs s j).m v
  | 0, j, h, _ => by rw [show j = 0 by omega]; exact Int.le_refl _
  | k + 1, j, h, hk => by
    by_cases e : j = k + 1
    · rw [e]; exact Int.le_refl _
    · exact Int.le_trans (rlxW_le (hx _ (nth_mem (xs := xs) (i := k) (by omega))) (by rw [(pasW_len xs s k).1]; exact hl) v) (pasW_anti hx hl v k j (by omega) (by omega))
/-- After a pass each link holds against the values before it. -/
theorem pasW_le {xs : List Lnk} {n : Nat} (hx : ∀ l ∈ xs, okLnk n l) {s : Rch} (hl : s.m.length = n) {l : Lnk} (h : l ∈ xs) (hf : nth s.m l.f.toNat < far9) : nth (pasW xs s xs.length).m l.t.toNat ≤ nth s.m l.f.toNat + l.m := by
  obtain ⟨i, hi, e⟩ := List.getElem_of_mem h
  have e2 : nth xs i = l := by rw [nth_eq hi]; exact e
  have h0 : nth (pasW xs s i).m l.f.toNat ≤ nth s.m l.f.toNat := pasW_anti hx hl l.f.toNat i 0 (by omega) (by omega)
  have h1 : nth (pasW xs s xs.length).m l.t.toNat ≤ nth (pasW xs s (i + 1)).m l.t.toNat := pasW_anti hx hl l.t.toNat xs.length (i + 1) (by omega) (Nat.le_refl _)
  have h2 : nth (rlxW xs i (pasW xs s i)).m (nth xs i).t.toNat ≤ nth (pasW xs s i).m (nth xs i).f.toNat + (nth xs i).m := rlxW_at (by rw [e2]; exact hx l h) (by rw [(pasW_len xs s i).1]; exact hl) (by rw [e2]; omega)
  rw [e2] at h2
  have h3 : nth (pasW xs s (i + 1)).m l.t.toNat = nth (rlxW xs i (pasW xs s i)).m l.t.toNat := rfl
  omega
/-- What no link lowers stays below. -/
theorem pasW_low {xs : List Lnk} {n : Nat} (hx : ∀ l ∈ xs, okLnk n l) {s : Rch} (hl : s.m.length = n) {d : Nat → Int} (hd : ∀ l ∈ xs, d l.t.toNat ≤ d l.f.toNat + l.m) (h : ∀ v, v < n → d v ≤ nth s.m v) : ∀ k, k ≤ xs.length → ∀ v, v < n → d v ≤ nth (pasW xs s k).m v
  | 0, _, v, hv => h v hv
  | k + 1, hk, v, hv => by
    have ih := pasW_low hx hl hd h k (by omega)
    have hm := nth_mem (xs := xs) (i := k) (by omega)
    have ha := hx _ hm
    have h2 := hd _ hm
    unfold okLnk at ha
    have hlen := (pasW_len xs s k).1
    show d v ≤ nth (rlxW xs k (pasW xs s k)).m v
    unfold rlxW
    split
    · show d v ≤ nth (List.set _ _ _) v
      rw [nthW_set (by omega)]
      split
      · rename_i e; have := ih (nth xs k).f.toNat (by omega); rw [e]; omega
      · exact ih v hv
    · exact ih v hv
theorem runW_low {xs : List Lnk} {n : Nat} (hx : ∀ l ∈ xs, okLnk n l) {d : Nat → Int} (hd : ∀ l ∈ xs, d l.t.toNat ≤ d l.f.toNat + l.m) : ∀ k s, s.m.length = n → (∀ v, v < n → d v ≤ nth s.m v) → ∀ v, v < n → d v ≤ nth (runW xs k s).m v
  | 0, _, _, h => h
  | k + 1, s, hl, h => by
    have hp := pasW_low hx hl hd h xs.length (Nat.le_refl _)
    rw [runW]
    split
    · exact hp
    · exact runW_low hx hd k _ (by rw [(pasW_len xs s _).1]; exact hl) hp
/-- A pass in which nothing has changed. -/
theorem pasW_same {xs : List Lnk} {n : Nat} (hx : ∀ l ∈ xs, okLnk n l) {s : Rch} : ∀ k, k ≤ xs.length → (pasW xs s k).ring < 0 → pasW xs s k = ⟨s.m, s.b, -1⟩
  | 0, _, _ => rfl
  | k + 1, hk, h => by
    have ha := hx _ (nth_mem (xs := xs) (i := k) (by omega))
    unfold okLnk at ha
    have h1 : (rlxW xs k (pasW xs s k)).ring < 0 := h
    show rlxW xs k (pasW xs s k) = _
    unfold rlxW at h1 ⊢
    split at h1
    · have : (nth xs k).t < 0 := h1
      omega
    · rename_i hc
      rw [if_neg hc]; exact pasW_same hx k (by omega) h1
theorem pasW_eq {xs : List Lnk} {s s' : Rch} (h : s.m = s'.m) (hb : s.b = s'.b) : ∀ k, pasW xs s k = pasW xs s' k
  | 0 => by show Rch.mk _ _ _ = Rch.mk _ _ _; rw [h, hb]
  | k + 1 => by show rlxW _ _ _ = rlxW _ _ _; rw [pasW_eq h hb k]
/-- So many passes. -/
def itrW (xs : List Lnk) (s : Rch) : Nat → Rch
  | 0 => s
  | k + 1 => pasW xs (itrW xs s k) xs.length
theorem itrW_succ (xs : List Lnk) : ∀ k s, itrW xs (pasW xs s xs.length) k = itrW xs s (k + 1)
  | 0, _ => rfl
  | k + 1, s => by show pasW xs (itrW xs (pasW xs s xs.length) k) xs.length = _; rw [itrW_succ xs k s]; rfl
theorem itrW_len (xs : List Lnk) (s : Rch) : ∀ k, (itrW xs s k).m.length = s.m.length
  | 0 => rfl
  | k + 1 => (pasW_len xs _ _).1.trans (itrW_len xs s k)
/-- The run ends no higher than any number of passes. -/
theorem runW_le {xs : List Lnk} {n : Nat} (hx : ∀ l ∈ xs, okLnk n l) : ∀ k s j, s.m.length = n → j ≤ k → ∀ v, nth (runW xs k s).m v ≤ nth (itrW xs s j).m v
  | 0, s, j, hl, hj, v => by rw [show j = 0 by omega]; exact Int.le_refl _
  | k + 1, s, j, hl, hj, v => by
    have hl2 : (pasW xs s xs.length).m.length = n := by rw [(pasW_len xs s _).1]; exact hl
    rw [runW]
    split
    · rename_i hr
      have e := pasW_same hx xs.length (Nat.le_refl _) hr
      have hst : ∀ j, (itrW xs s j).m = s.m ∧ (itrW xs s j).b = s.b := fun j => by
        induction j with
        | zero => exact ⟨rfl, rfl⟩
        | succ j ih => 
          show (pasW xs (itrW xs s j) xs.length).m = _ ∧ (pasW xs (itrW xs s j) xs.length).b = _
          rw [pasW_eq ih.1 ih.2, e]; exact ⟨rfl, rfl⟩
      rw [e, (hst j).1]; exact Int.le_refl _
    · cases j with
      | zero => exact Int.le_trans (runW_le hx k _ 0 hl2 (by omega) v) (pasW_anti hx hl v xs.length 0 (by omega) (Nat.le_refl _))
      | succ j =>
        have := runW_le hx k (pasW xs s xs.length) j hl2 (by omega) v
        rw [itrW_succ] at this; exact this
/-- Where some pass changes nothing, there is no ring. -/
theorem runW_fit {xs : List Lnk} {n : Nat} (hx : ∀ l ∈ xs, okLnk n l) : ∀ k s j, s.m.length = n → j < k → (pasW xs (itrW xs s j) xs.length).ring < 0 → (runW xs k s).ring < 0
  | 0, s, j, hl, hj, _ => by omega
  | k + 1, s, j, hl, hj, h => by
    rw [runW]
    split
    · rename_i hr; exact hr
    · rename_i hr
      cases j with
      | zero => exact absurd h hr
      | succ j => exact runW_fit hx k _ j (by rw [(pasW_len xs s _).1]; exact hl) (by omega) (by rw [itrW_succ]; exact h)
/-- No link lowers anything: the pass changes nothing. -/
theorem pasW_none {xs : List Lnk} {s : Rch} (h : ∀ l ∈ xs, nth s.m l.t.toNat ≤ nth s.m l.f.toNat + l.m) : ∀ k, k ≤ xs.length → pasW xs s k = ⟨s.m, s.b, -1⟩
  | 0, _ => rfl
  | k + 1, hk => by
    have := h _ (nth_mem (xs := xs) (i := k) (by omega))
    show rlxW xs k (pasW xs s k) = _
    rw [pasW_none h k (by omega)]
    unfold rlxW
    rw [if_neg]
    unfold rlxWC
    dsimp only
    omega
theorem ini_nth {n v : Nat} {fr : Int} (h : v < n) : nth (iniW n fr).m v = iniV fr v := by
  unfold iniW
  dsimp only
  rw [nth_eq (by simpa using h)]; simp
theorem ini_len (n : Nat) (fr : Int) : (iniW n fr).m.length = n := by unfold iniW; simp

def lnk2 (f t lo hi : Int) : List Lnk := [⟨f, t, hi⟩, ⟨t, f, -lo⟩]
/-- An option. -/
structure Opt where
  k : Int
  e : Int
  c : Int
  a : Int
  lo : Int
  hi : Int
instance : Inhabited Opt := ⟨⟨default, default, default, default, default, default⟩⟩
structure Bcl where
  lo : Int
  hi : Int
instance : Inhabited Bcl := ⟨⟨default, default⟩⟩
def lnkE (i : Nat) : List Lnk := lnk2 0 (1 + (i : Int)) 0 1000000
def lnkC (n : Nat) (j : Nat) (b : Bcl) : List Lnk := lnk2 0 (1 + (n : Int) + (j : Int)) (-b.hi) (-b.lo)
def lnkO (n : Nat) (o : Opt) : List Lnk := if o.k = 2 then lnk2 (1 + o.a) (1 + o.e) o.lo o.hi else lnk2 (1 + (n : Int) + o.c) (1 + o.e) o.lo o.hi
def opES (k : Nat) : List Lnk := (List.range k).flatMap lnkE
def opC (n : Nat) (cs : List Bcl) (k : Nat) : List Lnk := (List.range k).flatMap fun j => lnkC n j (nth cs j)
def opO (n : Nat) (os : List Opt) (k : Nat) : List Lnk := (os.take k).flatMap (lnkO n)
def opnW (n : Nat) (cs : List Bcl) (os : List Opt) : List Lnk := opES n ++ opC n cs cs.length ++ opO n os os.length
/-! ### events that one clock showed -/
theorem itr_stepN {n : Nat} {xs : List Lnk} (hx : ∀ l ∈ xs, okLnk n l) {s : Rch} (hl : s.m.length = n) {l : Lnk} (h : l ∈ xs) (j : Nat) {x : Int} (hf : nth (itrW xs s j).m l.f.toNat ≤ x) (hx9 : x < far9) : nth (itrW xs s (j + 1)).m l.t.toNat ≤ x + l.m := by
  have := pasW_le hx (s := itrW xs s j) (by rw [itrW_len]; exact hl) h (by omega)
  show nth (pasW xs (itrW xs s j) xs.length).m l.t.toNat ≤ _
  omega
theorem itr_antiN {n : Nat} {xs : List Lnk} (hx : ∀ l ∈ xs, okLnk n l) {s : Rch} (hl : s.m.length = n) (v : Nat) : ∀ k j, nth (itrW xs s (j + k)).m v ≤ nth (itrW xs s j).m v
  | 0, _ => Int.le_refl _
  | k + 1, j => Int.le_trans (pasW_anti hx (by rw [itrW_len]; exact hl) v xs.length 0 (by omega) (Nat.le_refl _)) (itr_antiN hx hl v k j)
theorem itr_lowN {n : Nat} {xs : List Lnk} (hx : ∀ l ∈ xs, okLnk n l) {d : Nat → Int} (hd : ∀ l ∈ xs, d l.t.toNat ≤ d l.f.toNat + l.m) {s : Rch} (hl : s.m.length = n) (h : ∀ v, v < n → d v ≤ nth s.m v) : ∀ j v, v < n → d v ≤ nth (itrW xs s j).m v
  | 0 => h
  | j + 1 => pasW_low hx (by rw [itrW_len]; exact hl) hd (itr_lowN hx hd hl h j) xs.length (Nat.le_refl _)
theorem fit_ofN {n : Nat} {xs : List Lnk} (hx : ∀ l ∈ xs, okLnk n l) {d : Nat → Int} (hd : ∀ l ∈ xs, d l.t.toNat ≤ d l.f.toNat + l.m) {s : Rch} (hl : s.m.length = n) (h : ∀ v, v < n → d v ≤ nth s.m v) {j : Nat} (hj : j < n) (hle : ∀ v, v < n → nth (itrW xs s j).m v ≤ d v) : (runW xs n s).ring < 0 := by
  refine runW_fit hx n s j hl hj ?_
  have e : ∀ v, v < n → nth (itrW xs s j).m v = d v := fun v hv => Int.le_antisymm (hle v hv) (itr_lowN hx hd hl h j v hv)
  rw [pasW_none (fun l hm => ?_) xs.length (Nat.le_refl _)]
  · show (-1 : Int) < 0; decide
  · have ha := hx l hm
    unfold okLnk at ha
    rw [e _ (by omega), e _ (by omega)]; exact hd l hm
theorem rch_at {n : Nat} {xs : List Lnk} (hx : ∀ l ∈ xs, okLnk n l) {fr : Int} {d : Nat → Int} (hd : ∀ l ∈ xs, d l.t.toNat ≤ d l.f.toNat + l.m) (h0 : ∀ v, v < n → d v ≤ iniV fr v) {v j : Nat} (hv : v < n) (hj : j ≤ n) (h : nth (itrW xs (iniW n fr) j).m v ≤ d v) : nth (rchW n xs fr).m v = d v :=
  Int.le_antisymm (Int.le_trans (runW_le hx n _ j (ini_len n fr) hj v) h) (runW_low hx hd n _ (ini_len n fr) (fun u hu => by rw [ini_nth hu]; exact h0 u hu) v hv)
/-- the events' minutes, as the clock z showed them -/
def seenL (z : Nat) : Nat → List Int → List Opt
  | _, [] => []
  | i, m :: r => ⟨1, (i : Int), (z : Int), 0, m, m⟩ :: seenL z (i + 1) r
def clk2 (fast : Int) : List Bcl := [⟨0, 0⟩, ⟨0, fast⟩]
def webS (fast : Int) (z : Nat) (ms : List Int) : List Lnk := opnW ms.length (clk2 fast) (seenL z 0 ms)
theorem seenL_len (z : Nat) : ∀ (ms : List Int) (i : Nat), (seenL z i ms).length = ms.length
  | [], _ => rfl
  | _m :: r, i => congrArg (· + 1) (seenL_len z r (i + 1))
theorem seenL_mem {z : Nat} {o : Opt} : ∀ {ms : List Int} {i : Nat}, o ∈ seenL z i ms → ∃ k, k < ms.length ∧ o = ⟨1, ((i + k : Nat) : Int), (z : Int), 0, nth ms k, nth ms k⟩
  | [], _, h => by cases h
  | m :: r, i, h => by
    rcases List.mem_cons.1 h with rfl | h
    · exact ⟨0, Nat.succ_pos _, rfl⟩
    · obtain ⟨k, hk, e⟩ := seenL_mem h
      refine ⟨k + 1, Nat.succ_lt_succ hk, ?_⟩
      rw [e]
      show (⟨1, ((i + 1 + k : Nat) : Int), _, _, nth r k, nth r k⟩ : Opt) = ⟨1, ((i + (k + 1) : Nat) : Int), _, _, nth (m :: r) (k + 1), nth (m :: r) (k + 1)⟩
      rw [show i + 1 + k = i + (k + 1) by omega]; rfl
theorem seenL_has {z : Nat} : ∀ {ms : List Int} {i k : Nat}, k < ms.length → (⟨1, ((i + k : Nat) : Int), (z : Int), 0, nth ms k, nth ms k⟩ : Opt) ∈ seenL z i ms
  | [], _, _, h => absurd h (Nat.not_lt_zero _)
  | m :: r, i, 0, _ => List.mem_cons_self ..
  | m :: r, i, k + 1, h => by
    have := seenL_has (z := z) (ms := r) (i := i + 1) (k := k) (by simpa using h)
    rw [show i + 1 + k = i + (k + 1) by omega] at this
    exact List.mem_cons_of_mem _ this
/-- all links of the case -/
theorem webS_iff {fast : Int} {z : Nat} {ms : List Int} {l : Lnk} : l ∈ webS fast z ms ↔
    (∃ i, i < ms.length ∧ (l = ⟨0, 1 + (i : Int), 1000000⟩ ∨ l = ⟨1 + (i : Int), 0, 0⟩)) ∨
    (l = ⟨0, 1 + (ms.length : Int) + 0, 0⟩ ∨ l = ⟨1 + (ms.length : Int) + 0, 0, 0⟩ ∨ l = ⟨0, 1 + (ms.length : Int) + 1, 0⟩ ∨ l = ⟨1 + (ms.length : Int) + 1, 0, fast⟩) ∨
    (∃ k, k < ms.length ∧ (l = ⟨1 + (ms.length : Int) + (z : Int), 1 + (k : Int), nth ms k⟩ ∨ l = ⟨1 + (k : Int), 1 + (ms.length : Int) + (z : Int), -nth ms k⟩)) := by
  have hE : l ∈ opES ms.length ↔ ∃ i, i < ms.length ∧ (l = ⟨0, 1 + (i : Int), 1000000⟩ ∨ l = ⟨1 + (i : Int), 0, 0⟩) := by
    unfold opES
    rw [List.mem_flatMap]
    constructor
    · rintro ⟨i, hi, h⟩
      refine ⟨i, List.mem_range.1 hi, ?_⟩
      unfold lnkE lnk2 at h
      simpa using h
    · rintro ⟨i, hi, h⟩
      refine ⟨i, List.mem_range.2 hi, ?_⟩
      unfold lnkE lnk2
      simpa using h
  have hC : l ∈ opC ms.length (clk2 fast) (clk2 fast).length ↔ (l = ⟨0, 1 + (ms.length : Int) + 0, 0⟩ ∨ l = ⟨1 + (ms.length : Int) + 0, 0, 0⟩ ∨ l = ⟨0, 1 + (ms.length : Int) + 1, 0⟩ ∨ l = ⟨1 + (ms.length : Int) + 1, 0, fast⟩) := by
    have e : opC ms.length (clk2 fast) (clk2 fast).length = [⟨0, 1 + (ms.length : Int) + 0, -0⟩, ⟨1 + (ms.length : Int) + 0, 0, - -0⟩, ⟨0, 1 + (ms.length : Int) + 1, -0⟩, ⟨1 + (ms.length : Int) + 1, 0, - -fast⟩] := rfl
    rw [e]
    simp only [List.mem_cons, List.not_mem_nil, or_false, Int.neg_neg, Int.neg_zero]
  have hO : l ∈ opO ms.length (seenL z 0 ms) (seenL z 0 ms).length ↔ ∃ k, k < ms.length ∧ (l = ⟨1 + (ms.length : Int) + (z : Int), 1 + (k : Int), nth ms k⟩ ∨ l = ⟨1 + (k : Int), 1 + (ms.length : Int) + (z : Int), -nth ms k⟩) := by
    unfold opO
    rw [List.take_length, List.mem_flatMap]
    constructor
    · rintro ⟨o, ho, h⟩
      obtain ⟨k, hk, rfl⟩ := seenL_mem ho
      refine ⟨k, hk, ?_⟩
      unfold lnkO lnk2 at h
      simpa using h
    · rintro ⟨k, hk, h⟩
      refine ⟨_, seenL_has (z := z) (i := 0) hk, ?_⟩
      unfold lnkO lnk2
      simpa using h
  unfold webS opnW
  rw [List.mem_append, List.mem_append, hE, hC, hO]
  simp only [or_assoc]
/-- minutes that a log has -/
def okMs (ms : List Int) : Prop := (∀ m ∈ ms, 0 ≤ m ∧ m ≤ 1000000) ∧ (∀ i j, i ≤ j → j < ms.length → nth ms i ≤ nth ms j) ∧ 0 < ms.length
theorem webS_ok {fast : Int} {z : Nat} {ms : List Int} (h : okMs ms) (hf : 0 ≤ fast ∧ fast ≤ 255) (hz : z < 2) : ∀ l ∈ webS fast z ms, okLnk (1 + ms.length + 2) l := by
  intro l hl
  unfold okLnk
  rcases webS_iff.1 hl with ⟨i, hi, rfl | rfl⟩ | (rfl | rfl | rfl | rfl) | ⟨k, hk, rfl | rfl⟩ <;> dsimp only
  · omega
  · omega
  · omega
  · omega
  · omega
  · omega
  · have := h.1 _ (nth_mem hk); omega
  · have := h.1 _ (nth_mem hk); omega
/-- by how much the clock was fast at most -/
def mostS (fast : Int) (ms : List Int) : Int := min fast (nth ms 0)
/-- values from a variable whose value to the clock is -a: zero, events, clocks -/
def dS (t a : Int) (ms : List Int) (v : Nat) : Int := if v = 0 then t else if v ≤ ms.length then nth ms (v - 1) - a else if v = 1 + ms.length then t else -a
theorem dS_0 (t a : Int) (ms : List Int) : dS t a ms (0 : Int).toNat = t := rfl
theorem dS_e (t a : Int) {ms : List Int} {i : Nat} (hi : i < ms.length) : dS t a ms (1 + (i : Int)).toNat = nth ms i - a := by
  unfold dS
  rw [show (1 + (i : Int)).toNat = i + 1 by omega, if_neg (by omega), if_pos (by omega), Nat.add_sub_cancel]
theorem dS_1 (t a : Int) (ms : List Int) : dS t a ms (1 + (ms.length : Int) + 0).toNat = t := by
  unfold dS
  rw [show (1 + (ms.length : Int) + 0).toNat = 1 + ms.length by omega, if_neg (by omega), if_neg (by omega), if_pos rfl]
theorem dS_2 (t a : Int) (ms : List Int) : dS t a ms (1 + (ms.length : Int) + 1).toNat = -a := by
  unfold dS
  rw [show (1 + (ms.length : Int) + 1).toNat = 2 + ms.length by omega, if_neg (by omega), if_neg (by omega), if_neg (by omega)]
def okT (z : Nat) (fast t a : Int) (ms : List Int) : Prop := (z = 0 → t = -a) ∧ -a ≤ t ∧ t ≤ -a + mostS fast ms
theorem most_rng {fast : Int} {ms : List Int} (h : okMs ms) (hf : 0 ≤ fast ∧ fast ≤ 255) : mostS fast ms ≤ fast ∧ mostS fast ms ≤ nth ms 0 ∧ 0 ≤ mostS fast ms := by
  have hm0 := h.1 _ (nth_mem h.2.2)
  unfold mostS; omega
theorem dS_hold {fast t a : Int} {z : Nat} {ms : List Int} (h : okMs ms) (hf : 0 ≤ fast ∧ fast ≤ 255) (hz : z < 2) (ht : okT z fast t a ms) : ∀ l ∈ webS fast z ms, dS t a ms l.t.toNat ≤ dS t a ms l.f.toNat + l.m := by
  intro l hl
  have hmo := most_rng h hf
  obtain ⟨ht1, ht2, ht3⟩ := ht
  have ez : dS t a ms (1 + (ms.length : Int) + (z : Int)).toNat = -a := by
    rcases (show z = 0 ∨ z = 1 by omega) with rfl | rfl
    · exact (dS_1 t a ms).trans (ht1 rfl)
    · exact dS_2 t a ms
  rcases webS_iff.1 hl with ⟨i, hi, rfl | rfl⟩ | (rfl | rfl | rfl | rfl) | ⟨k, hk, rfl | rfl⟩ <;> dsimp only
  · rw [dS_e t a hi, dS_0]; have := h.1 _ (nth_mem hi); omega
  · rw [dS_e t a hi, dS_0]; have := h.2.1 0 i (by omega) hi; omega
  · rw [dS_0, dS_1]; omega
  · rw [dS_0, dS_1]; omega
  · rw [dS_0, dS_2]; omega
  · rw [dS_0, dS_2]; omega
  · rw [dS_e t a hk, ez]; omega
  · rw [dS_e t a hk, ez]; omega
/-- what t is: the clock is exact, or was fast -/
def tS (z : Nat) (fast a : Int) (ms : List Int) : Int := if z = 0 then -a else -a + mostS fast ms
theorem okT_tS {z : Nat} {fast a : Int} {ms : List Int} (h : okMs ms) (hf : 0 ≤ fast ∧ fast ≤ 255) : okT z fast (tS z fast a ms) a ms := by
  have := most_rng h hf
  unfold okT tS
  split
  · exact ⟨fun _ => rfl, by omega, by omega⟩
  · rename_i hz; exact ⟨fun q => absurd q hz, by omega, by omega⟩
theorem bd_S {ms : List Int} (h : okMs ms) (k : Nat) : 0 ≤ nth ms k ∧ nth ms k ≤ 1000000 := by
  by_cases q : k < ms.length
  · exact h.1 _ (nth_mem q)
  · have e : nth ms k = 0 := by unfold nth; rw [List.getD_eq_getElem?_getD, List.getElem?_eq_none (by omega)]; rfl
    rw [e]; decide
section
variable {fast : Int} {z : Nat} {ms : List Int}
theorem w_ec {i : Nat} (hi : i < ms.length) : (⟨1 + (i : Int), 1 + (ms.length : Int) + (z : Int), -nth ms i⟩ : Lnk) ∈ webS fast z ms := webS_iff.2 (.inr (.inr ⟨i, hi, .inr rfl⟩))
theorem w_ce {i : Nat} (hi : i < ms.length) : (⟨1 + (ms.length : Int) + (z : Int), 1 + (i : Int), nth ms i⟩ : Lnk) ∈ webS fast z ms := webS_iff.2 (.inr (.inr ⟨i, hi, .inl rfl⟩))
theorem w_e0 {i : Nat} (hi : i < ms.length) : (⟨1 + (i : Int), 0, 0⟩ : Lnk) ∈ webS fast z ms := webS_iff.2 (.inl ⟨i, hi, .inr rfl⟩)
theorem w_0c (hz : z < 2) : (⟨0, 1 + (ms.length : Int) + (z : Int), 0⟩ : Lnk) ∈ webS fast z ms := by
  rcases (show z = 0 ∨ z = 1 by omega) with rfl | rfl
  · exact webS_iff.2 (.inr (.inl (.inl rfl)))
  · exact webS_iff.2 (.inr (.inl (.inr (.inr (.inl rfl)))))
theorem w_0d (j : Nat) (hj : j < 2) : (⟨0, 1 + (ms.length : Int) + (j : Int), 0⟩ : Lnk) ∈ webS fast z ms := by
  rcases (show j = 0 ∨ j = 1 by omega) with rfl | rfl
  · exact webS_iff.2 (.inr (.inl (.inl rfl)))
  · exact webS_iff.2 (.inr (.inl (.inr (.inr (.inl rfl)))))
theorem w_c0 (hz : z < 2) : (⟨1 + (ms.length : Int) + (z : Int), 0, if z = 0 then 0 else fast⟩ : Lnk) ∈ webS fast z ms := by
  rcases (show z = 0 ∨ z = 1 by omega) with rfl | rfl
  · exact webS_iff.2 (.inr (.inl (.inr (.inl rfl))))
  · exact webS_iff.2 (.inr (.inl (.inr (.inr (.inr rfl)))))
variable (h : okMs ms) (hf : 0 ≤ fast ∧ fast ≤ 255) (hz : z < 2)
include h hf hz
/-- from an event, by way of the clock -/
theorem up_cS {s : Rch} (hs : s.m.length = 1 + ms.length + 2) {i : Nat} (hi : i < ms.length) {j : Nat} {x : Int} (hx : nth (itrW (webS fast z ms) s j).m (1 + (i : Int)).toNat ≤ x) (hx9 : x ≤ 1000000) : nth (itrW (webS fast z ms) s (j + 1)).m (1 + (ms.length : Int) + (z : Int)).toNat ≤ x - nth ms i :=
  itr_stepN (webS_ok h hf hz) hs (w_ec hi) j hx (by unfold far9; omega)
theorem up_e {s : Rch} (hs : s.m.length = 1 + ms.length + 2) {i : Nat} (hi : i < ms.length) {j : Nat} {x : Int} (hx : nth (itrW (webS fast z ms) s j).m (1 + (ms.length : Int) + (z : Int)).toNat ≤ x) (hx9 : x ≤ 1000000) : nth (itrW (webS fast z ms) s (j + 1)).m (1 + (i : Int)).toNat ≤ x + nth ms i :=
  itr_stepN (webS_ok h hf hz) hs (w_ce hi) j hx (by unfold far9; omega)
/-- from the clock, to zero -/
theorem up_0 {s : Rch} (hs : s.m.length = 1 + ms.length + 2) {j : Nat} {a : Int} (ha : -1000000 ≤ a) (hx : nth (itrW (webS fast z ms) s j).m (1 + (ms.length : Int) + (z : Int)).toNat ≤ -a) : nth (itrW (webS fast z ms) s (j + 2)).m (0 : Int).toNat ≤ tS z fast a ms := by
  have hk := webS_ok h hf hz
  have h1 := itr_stepN hk hs (w_c0 hz) j hx (by unfold far9; omega)
  have h2 := itr_stepN hk hs (w_e0 h.2.2) (j + 1) (up_e h hf hz hs h.2.2 hx (by omega)) (by have := h.1 _ (nth_mem h.2.2); unfold far9; omega)
  have h3 := itr_antiN hk hs (0 : Int).toNat 1 (j + 1)
  dsimp only at h1 h2
  have e : j + 1 + 1 = j + 2 := rfl
  rw [e] at h2 h3
  unfold tS mostS
  split
  · rename_i q; rw [if_pos q] at h1; omega
  · rename_i q; rw [if_neg q] at h1; omega
theorem high_S {i : Nat} (hi : i < ms.length) : nth (rchW (1 + ms.length + 2) (webS fast z ms) 0).m (1 + (i : Int)).toNat = nth ms i := by
  have hk := webS_ok h hf hz
  have hl := ini_len (1 + ms.length + 2) 0
  have hmo := most_rng h hf
  have ht : okT z fast 0 0 ms := ⟨fun _ => rfl, by omega, by omega⟩
  have e := rch_at hk (dS_hold h hf hz ht) (fr := 0) (fun v hv => ?_) (v := (1 + (i : Int)).toNat) (j := 2) (by omega) (by omega) ?_
  · rw [e, dS_e 0 0 hi, Int.sub_zero]
  · have := bd_S h (v - 1)
    unfold iniV dS far9
    by_cases q : v = 0
    · rw [if_pos q, if_pos (.inl (by omega))]; exact Int.le_refl _
    · rw [if_neg q, if_neg (show ¬ ((v : Int) = 0 ∨ (0 : Int) < 0) by omega)]
      split
      · omega
      · split <;> omega
  · rw [dS_e 0 0 hi]
    have p0 : nth (itrW (webS fast z ms) (iniW (1 + ms.length + 2) 0) 0).m (0 : Int).toNat ≤ 0 := by
      show nth (iniW (1 + ms.length + 2) 0).m 0 ≤ 0
      rw [ini_nth (by omega)]; exact Int.le_refl _
    have p1 := itr_stepN hk hl (w_0c hz) 0 p0 (by unfold far9; omega)
    have p2 := up_e h hf hz hl hi (j := 1) (x := 0) p1 (by omega)
    have p3 : nth (itrW (webS fast z ms) (iniW (1 + ms.length + 2) 0) 2).m (1 + (i : Int)).toNat ≤ 0 + nth ms i := p2
    omega
omit hz in
/-- values from an event -/
theorem dS_ini {i : Nat} (hi : i < ms.length) : ∀ v, v < 1 + ms.length + 2 → dS (tS z fast (nth ms i) ms) (nth ms i) ms v ≤ iniV (1 + (i : Int)) v := by
  intro v hv
  have h1 := bd_S h (v - 1)
  have h2 := bd_S h i
  have hmo := most_rng h hf
  have ht := (okT_tS (z := z) (a := nth ms i) h hf).2
  unfold iniV far9
  by_cases q : (v : Int) = 1 + (i : Int)
  · rw [if_pos (.inl q)]
    have e : v = (1 + (i : Int)).toNat := by omega
    rw [e, dS_e _ _ hi]; omega
  · rw [if_neg (by omega)]
    unfold dS
    split
    · omega
    · split
      · omega
      · split <;> omega
omit h hf hz in
theorem start_S {i : Nat} (hi : i < ms.length) : nth (itrW (webS fast z ms) (iniW (1 + ms.length + 2) (1 + (i : Int))) 0).m (1 + (i : Int)).toNat ≤ 0 := by
  show nth (iniW (1 + ms.length + 2) (1 + (i : Int))).m _ ≤ 0
  rw [ini_nth (by omega)]
  unfold iniV
  rw [if_pos (.inl (by omega))]; exact Int.le_refl _
theorem low_S {i : Nat} (hi : i < ms.length) : nth (rchW (1 + ms.length + 2) (webS fast z ms) (1 + (i : Int))).m 0 = tS z fast (nth ms i) ms := by
  have hk := webS_ok h hf hz
  have hl := ini_len (1 + ms.length + 2) (1 + (i : Int))
  have hb := bd_S h i
  refine (rch_at hk (dS_hold h hf hz (okT_tS h hf)) (dS_ini h hf hi) (v := 0) (j := 3) (by omega) (by omega) ?_)
  have p1 := up_cS h hf hz hl hi (start_S hi) (by omega)
  exact up_0 h hf hz hl (j := 1) (a := nth ms i) (by omega) (by rw [Int.zero_sub] at p1; exact p1)
theorem gap_S {i k : Nat} (hi : i < ms.length) (hk2 : k < ms.length) : nth (rchW (1 + ms.length + 2) (webS fast z ms) (1 + (i : Int))).m (1 + (k : Int)).toNat = nth ms k - nth ms i := by
  have hk := webS_ok h hf hz
  have hl := ini_len (1 + ms.length + 2) (1 + (i : Int))
  have hb := bd_S h i
  have e := rch_at hk (dS_hold h hf hz (okT_tS h hf)) (dS_ini h hf hi) (v := (1 + (k : Int)).toNat) (j := 2) (by omega) (by omega) ?_
  · rw [e, dS_e _ _ hk2]
  · rw [dS_e _ _ hk2]
    have p1 := up_cS h hf hz hl hi (start_S hi) (by omega)
    have p2 := up_e h hf hz hl hk2 p1 (by omega)
    have p3 : nth (itrW (webS fast z ms) (iniW (1 + ms.length + 2) (1 + (i : Int))) 2).m (1 + (k : Int)).toNat ≤ 0 - nth ms i + nth ms k := p2
    omega
theorem fit_S : (rchW (1 + ms.length + 2) (webS fast z ms) (-1)).ring < 0 := by
  have hk := webS_ok h hf hz
  have hl := ini_len (1 + ms.length + 2) (-1)
  have hn := h.2.2
  have hmo := most_rng h hf
  have hM : ms.length - 1 < ms.length := by omega
  have hb := bd_S h (ms.length - 1)
  obtain ⟨M, eM⟩ : ∃ M, M = nth ms (ms.length - 1) := ⟨_, rfl⟩
  have hm0 : nth ms 0 ≤ M := by rw [eM]; exact h.2.1 0 _ (by omega) hM
  have ht := okT_tS (z := z) (a := M) h hf
  have i0 : ∀ v, v < 1 + ms.length + 2 → nth (iniW (1 + ms.length + 2) (-1)).m v ≤ 0 := fun v hv => by
    rw [ini_nth hv]; unfold iniV; rw [if_pos (.inr (by decide))]; exact Int.le_refl _
  have an : ∀ (v j k : Nat) (x : Int), j ≤ k → nth (itrW (webS fast z ms) (iniW (1 + ms.length + 2) (-1)) j).m v ≤ x → nth (itrW (webS fast z ms) (iniW (1 + ms.length + 2) (-1)) k).m v ≤ x := fun v j k x hjk hx => by
    have := itr_antiN hk hl v (k - j) j
    rw [show j + (k - j) = k by omega] at this; omega
  have p0 : nth (itrW (webS fast z ms) (iniW (1 + ms.length + 2) (-1)) 0).m (1 + ((ms.length - 1 : Nat) : Int)).toNat ≤ 0 := i0 _ (by omega)
  have p1 := up_cS h hf hz hl hM p0 (by omega)
  rw [← eM, Int.zero_sub] at p1
  have pz := up_0 h hf hz hl (j := 1) (a := M) (by omega) p1
  have pe : ∀ k, k < ms.length → nth (itrW (webS fast z ms) (iniW (1 + ms.length + 2) (-1)) 2).m (1 + (k : Int)).toNat ≤ -M + nth ms k := fun k hk2 => up_e h hf hz hl hk2 p1 (by omega)
  -- the other clock lies at zero's value
  have dle : ∀ v, v < 1 + ms.length + 2 → dS (tS z fast M ms) M ms v ≤ nth (iniW (1 + ms.length + 2) (-1)).m v := fun v hv => by
    have h1 := bd_S h (v - 1)
    rw [ini_nth hv]; unfold iniV; rw [if_pos (.inr (by decide))]
    have := ht.2
    unfold dS
    split
    · omega
    · split
      · rename_i q1 q2
        have := h.2.1 (v - 1) (ms.length - 1) (by omega) hM
        omega
      · split <;> omega
  -- how many passes it takes
  have fin : ∀ J, J < 1 + ms.length + 2 → 2 ≤ J → nth (itrW (webS fast z ms) (iniW (1 + ms.length + 2) (-1)) (J - 1)).m (0 : Int).toNat ≤ tS z fast M ms → (rchW (1 + ms.length + 2) (webS fast z ms) (-1)).ring < 0 := fun J hJ hJ2 hz0 => by
    refine fit_ofN hk (dS_hold h hf hz ht) hl dle (j := J) hJ fun v hv => ?_
    have hbt : tS z fast M ms ≤ 1000000 := by have := ht.2; omega
    have q0 := an _ (J - 1) J _ (by omega) hz0
    have qd : ∀ j : Nat, j < 2 → nth (itrW (webS fast z ms) (iniW (1 + ms.length + 2) (-1)) J).m (1 + (ms.length : Int) + (j : Int)).toNat ≤ tS z fast M ms := fun j hj => by
      have := itr_stepN hk hl (w_0d (fast := fast) (z := z) (ms := ms) j hj) (J - 1) hz0 (by unfold far9; omega)
      rw [show J - 1 + 1 = J by omega] at this
      dsimp only at this; omega
    by_cases q1 : v = 0
    · subst q1; exact q0
    by_cases q2 : v ≤ ms.length
    · have e : v = (1 + ((v - 1 : Nat) : Int)).toNat := by omega
      have := an _ 2 J _ hJ2 (pe (v - 1) (by omega))
      rw [← e] at this
      unfold dS
      rw [if_neg q1, if_pos q2]; omega
    by_cases q3 : v = 1 + ms.length
    · have e : v = (1 + (ms.length : Int) + ((0 : Nat) : Int)).toNat := by omega
      have := qd 0 (by omega)
      rw [← e] at this
      unfold dS
      rw [if_neg q1, if_neg q2, if_pos q3]; exact this
    · have e : v = (1 + (ms.length : Int) + ((1 : Nat) : Int)).toNat := by omega
      unfold dS
      rw [if_neg q1, if_neg q2, if_neg q3]
      rcases (show z = 0 ∨ z = 1 by omega) with rfl | rfl
      · have := qd 1 (by omega)
        rw [← e] at this
        have e9 : tS 0 fast M ms = -M := rfl
        omega
      · have := an _ 1 J _ (by omega) p1
        rw [← e] at this; exact this
  by_cases hn1 : ms.length = 1
  · refine fin 3 (by omega) (by omega) ?_
    -- the only event is the first one
    have eM0 : M = nth ms 0 := by rw [eM, hn1]
    have h1 := itr_stepN hk hl (w_c0 (fast := fast) (z := z) (ms := ms) hz) 1 p1 (by unfold far9; omega)
    have h2 := itr_stepN hk hl (w_e0 (fast := fast) (z := z) hM) 0 p0 (by unfold far9; omega)
    have h3 := an _ 1 2 _ (by omega) h2
    have h1' : nth (itrW (webS fast z ms) (iniW (1 + ms.length + 2) (-1)) 2).m (0 : Int).toNat ≤ -M + (if z = 0 then 0 else fast) := h1
    have h3' : nth (itrW (webS fast z ms) (iniW (1 + ms.length + 2) (-1)) 2).m (0 : Int).toNat ≤ 0 + 0 := h3
    show nth (itrW (webS fast z ms) (iniW (1 + ms.length + 2) (-1)) 2).m (0 : Int).toNat ≤ _
    unfold tS mostS
    split
    · rename_i q; rw [if_pos q] at h1'; omega
    · rename_i q; rw [if_neg q] at h1'; omega
  · exact fin 4 (by omega) (by omega) pz
end

end Go.Proofs.YtagmkfbbhfaceaaGreatDoor
