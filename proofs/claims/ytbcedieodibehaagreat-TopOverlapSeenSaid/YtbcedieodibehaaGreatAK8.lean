/-
  Part 8 of the proof: contracts and plain laws. Conditions: none.
-/
import Derived.Test.YtbcedieodibehaaGreatAK7
namespace Go.Proofs.YtbcedieodibehaaGreat
open Go Go.RowKit
set_option maxRecDepth 10000

/-- A link: a variable is at most so much greater than another one. -/
structure Lnk where
  f : Int
  t : Int
  m : Int
instance : Inhabited Lnk := ⟨⟨default, default, default⟩⟩
/-- By how much each variable can be greater, by which link, and a variable that has changed. -/
structure Rch where
  m : List Int
  b : List Int
  ring : Int
instance : Inhabited Rch := ⟨⟨default, default, default⟩⟩
def far9 : Int := 1099511627776
def rlxWC (xs : List Lnk) (i : Nat) (s : Rch) : Prop := nth s.m (nth xs i).f.toNat < far9 ∧ nth s.m (nth xs i).f.toNat + (nth xs i).m < nth s.m (nth xs i).t.toNat
instance (xs : List Lnk) (i : Nat) (s : Rch) : Decidable (rlxWC xs i s) := inferInstanceAs (Decidable (_ ∧ _))
def rlxW (xs : List Lnk) (i : Nat) (s : Rch) : Rch := if rlxWC xs i s then ⟨s.m.set (nth xs i).t.toNat (nth s.m (nth xs i).f.toNat + (nth xs i).m), s.b.set (nth xs i).t.toNat (i : Int), (nth xs i).t⟩ else s
def pasW (xs : List Lnk) (s : Rch) : Nat → Rch
  | 0 => ⟨s.m, s.b, -1⟩
  | k + 1 => rlxW xs k (pasW xs s k)
def runW (xs : List Lnk) : Nat → Rch → Rch
  | 0, s => s
  | k + 1, s => if (pasW xs s xs.length).ring < 0 then pasW xs s xs.length else runW xs k (pasW xs s xs.length)
def iniV (fr : Int) (v : Nat) : Int := if (v : Int) = fr ∨ fr < 0 then 0 else far9
def iniW (n : Nat) (fr : Int) : Rch := ⟨(List.range n).map (iniV fr), List.replicate n (-1), 0⟩
def rchW (n : Nat) (xs : List Lnk) (fr : Int) : Rch := runW xs n (iniW n fr)
def okLnk (n : Nat) (l : Lnk) : Prop := (0 ≤ l.f ∧ l.f < (n : Int)) ∧ (0 ≤ l.t ∧ l.t < (n : Int)) ∧ (-2000000 ≤ l.m ∧ l.m ≤ 2000000)
theorem nthW_set {l : List Int} {i j : Nat} {a : Int} (h : i < l.length) : nth (l.set i a) j = if j = i then a else nth l j := by
  by_cases e : j = i
  · subst e; rw [if_pos rfl]; simp [nth, List.getD_eq_getElem?_getD, h]
  · rw [if_neg e]; simp [nth, List.getD_eq_getElem?_getD, List.getElem?_set_ne (Ne.symm e)]
theorem pasW_len (xs : List Lnk) (s : Rch) : ∀ k, (pasW xs s k).m.length = s.m.length ∧ (pasW xs s k).b.length = s.b.length
  | 0 => ⟨rfl, rfl⟩
  | k + 1 => by
    have ih := pasW_len xs s k
    show (rlxW xs k (pasW xs s k)).m.length = _ ∧ (rlxW xs k (pasW xs s k)).b.length = _
    unfold rlxW
    split
    · exact ⟨by rw [List.length_set]; exact ih.1, by rw [List.length_set]; exact ih.2⟩
    · exact ih
theorem runW_len (xs : List Lnk) : ∀ k s, (runW xs k s).m.length = s.m.length ∧ (runW xs k s).b.length = s.b.length
  | 0, _ => ⟨rfl, rfl⟩
  | k + 1, s => by
    rw [runW]
    split
    · exact pasW_len xs s _
    · have h1 := runW_len xs k (pasW xs s xs.length); have h2 := pasW_len xs s xs.length
      exact ⟨h1.1.trans h2.1, h1.2.trans h2.2⟩
/-- Values lie between a bound that sinks pass by pass and far. -/
theorem pasW_bd {xs : List Lnk} {n : Nat} (hx : ∀ l ∈ xs, okLnk n l) {s : Rch} (hl : s.m.length = n) {B : Int} (h : ∀ x ∈ s.m, -B ≤ x ∧ x ≤ far9) : ∀ k, k ≤ xs.length → ∀ x ∈ (pasW xs s k).m, -B - 2000000 * (k : Int) ≤ x ∧ x ≤ far9
  | 0, _, x, hm => by have := h x hm; omega
  | k + 1, hk, x, hm => by
    have ih := pasW_bd hx hl h k (by omega)
    have hlen := (pasW_len xs s k).1
    have ha := hx _ (nth_mem (xs := xs) (i := k) (by omega))
    unfold okLnk at ha
    have hm2 : x ∈ (rlxW xs k (pasW xs s k)).m := hm
    unfold rlxW at hm2
    split at hm2
    · rename_i hc
      rcases List.mem_or_eq_of_mem_set hm2 with q | q
      · have := ih x q; omega
      · have h1 := ih _ (nth_mem (xs := (pasW xs s k).m) (i := (nth xs k).f.toNat) (by omega))
        have h2 := ih _ (nth_mem (xs := (pasW xs s k).m) (i := (nth xs k).t.toNat) (by omega))
        have h3 := hc.2
        rw [q]; omega
    · have := ih x hm2; omega
/-- One link more changes one value, to a smaller one. -/
theorem rlxW_le {xs : List Lnk} {n : Nat} {i : Nat} {s : Rch} (hi : okLnk n (nth xs i)) (hl : s.m.length = n) (v : Nat) : nth (rlxW xs i s).m v ≤ nth s.m v := by
  unfold rlxW
  split
  · rename_i hc
    show nth (s.m.set _ _) v ≤ _
    unfold okLnk at hi
    rw [nthW_set (by omega)]
    split
    · rename_i e; have := hc.2; rw [e]; omega
    · exact Int.le_refl _
  · exact Int.le_refl _
theorem rlxW_at {xs : List Lnk} {n : Nat} {i : Nat} {s : Rch} (hi : okLnk n (nth xs i)) (hl : s.m.length = n) (hf : nth s.m (nth xs i).f.toNat < far9) : nth (rlxW xs i s).m (nth xs i).t.toNat ≤ nth s.m (nth xs i).f.toNat + (nth xs i).m := by
  unfold rlxW
  unfold okLnk at hi
  split
  · rw [show (Rch.m ⟨s.m.set (nth xs i).t.toNat (nth s.m (nth xs i).f.toNat + (nth xs i).m), s.b.set (nth xs i).t.toNat (i : Int), (nth xs i).t⟩) = s.m.set (nth xs i).t.toNat (nth s.m (nth xs i).f.toNat + (nth xs i).m) from rfl, nthW_set (by omega), if_pos rfl]; exact Int.le_refl _
  · rename_i hc; unfold rlxWC at hc; omega
theorem pasW_anti {xs : List Lnk} {n : Nat} (hx : ∀ l ∈ xs, okLnk n l) {s : Rch} (hl : s.m.length = n) (v : Nat) : ∀ k j, j ≤ k → k ≤ xs.length → nth (pasW xs s k).m v ≤ nth (pasW xs s j).m v
  | 0, j, h, _ => by rw [show j = 0 by omega]; exact Int.le_refl _
  | k + 1, j, h, hk => by
    by_cases e : j = k + 1
    · rw [e]; exact Int.le_refl _
    · exact Int.le_trans (rlxW_le (hx _ (nth_mem (xs := xs) (i := k) (by omega))) (by rw [(pasW_len xs s k).1]; exact hl) v) (pasW_anti hx hl v k j (by omega) (by omega))
/-- After a pass each link holds against the values before it. -/
theorem pasW_le {xs : List Lnk} {n : Nat} (hx : ∀ l ∈ xs, okLnk n l) {s : Rch} (hl : s.m.length = n) {l : Lnk} (h : l ∈ xs) (hf : nth s.m l.f.toNat < far9) : nth (pasW xs s xs.length).m l.t.toNat ≤ nth s.m l.f.toNat + l.m := by
  obtain ⟨i, hi, e⟩ := List.getElem_of_mem h
  have e2 : nth xs i = l := by rw [nth_eq hi]; exact e
  have h0 : nth (pasW xs s i).m l.f.toNat ≤ nth s.m l.f.toNat := pasW_anti hx hl l.f.toNat i 0 (by omega) (by omega)
  have h1 : nth (pasW xs s xs.length).m l.t.toNat ≤ nth (pasW xs s (i + 1)).m l.t.toNat := pasW_anti hx hl l.t.toNat xs.length (i + 1) (by omega) (Nat.le_refl _)
  have h2 : nth (rlxW xs i (pasW xs s i)).m (nth xs i).t.toNat ≤ nth (pasW xs s i).m (nth xs i).f.toNat + (nth xs i).m := rlxW_at (by rw [e2]; exact hx l h) (by rw [(pasW_len xs s i).1]; exact hl) (by rw [e2]; omega)
  rw [e2] at h2
  have h3 : nth (pasW xs s (i + 1)).m l.t.toNat = nth (rlxW xs i (pasW xs s i)).m l.t.toNat := rfl
  omega
/-- What no link lowers stays below. -/
theorem pasW_low {xs : List Lnk} {n : Nat} (hx : ∀ l ∈ xs, okLnk n l) {s : Rch} (hl : s.m.length = n) {d : Nat → Int} (hd : ∀ l ∈ xs, d l.t.toNat ≤ d l.f.toNat + l.m) (h : ∀ v, v < n → d v ≤ nth s.m v) : ∀ k, k ≤ xs.length → ∀ v, v < n → d v ≤ nth (pasW xs s k).m v
  | 0, _, v, hv => h v hv
  | k + 1, hk, v, hv => by
    have ih := pasW_low hx hl hd h k (by omega)
    have hm := nth_mem (xs := xs) (i := k) (by omega)
    have ha := hx _ hm
    have h2 := hd _ hm
    unfold okLnk at ha
    have hlen := (pasW_len xs s k).1
    show d v ≤ nth (rlxW xs k (pasW xs s k)).m v
    unfold rlxW
    split
    · show d v ≤ nth (List.set _ _ _) v
      rw [nthW_set (by omega)]
      split
      · rename_i e; have := ih (nth xs k).f.toNat (by omega); rw [e]; omega
      · exact ih v hv
    · exact ih v hv
theorem runW_low {xs : List Lnk} {n : Nat} (hx : ∀ l ∈ xs, okLnk n l) {d : Nat → Int} (hd : ∀ l ∈ xs, d l.t.toNat ≤ d l.f.toNat + l.m) : ∀ k s, s.m.length = n → (∀ v, v < n → d v ≤ nth s.m v) → ∀ v, v < n → d v ≤ nth (runW xs k s).m v
  | 0, _, _, h => h
  | k + 1, s, hl, h => by
    have hp := pasW_low hx hl hd h xs.length (Nat.le_refl _)
    rw [runW]
    split
    · exact hp
    · exact runW_low hx hd k _ (by rw [(pasW_len xs s _).1]; exact hl) hp
/-- A pass in which nothing has changed. -/
theorem pasW_same {xs : List Lnk} {n : Nat} (hx : ∀ l ∈ xs, okLnk n l) {s : Rch} : ∀ k, k ≤ xs.length → (pasW xs s k).ring < 0 → pasW xs s k = ⟨s.m, s.b, -1⟩
  | 0, _, _ => rfl
  | k + 1, hk, h => by
    have ha := hx _ (nth_mem (xs := xs) (i := k) (by omega))
    unfold okLnk at ha
    have h1 : (rlxW xs k (pasW xs s k)).ring < 0 := h
    show rlxW xs k (pasW xs s k) = _
    unfold rlxW at h1 ⊢
    split at h1
    · have : (nth xs k).t < 0 := h1
      omega
    · rename_i hc
      rw [if_neg hc]; exact pasW_same hx k (by omega) h1
theorem pasW_eq {xs : List Lnk} {s s' : Rch} (h : s.m = s'.m) (hb : s.b = s'.b) : ∀ k, pasW xs s k = pasW xs s' k
  | 0 => by show Rch.mk _ _ _ = Rch.mk _ _ _; rw [h, hb]
  | k + 1 => by show rlxW _ _ _ = rlxW _ _ _; rw [pasW_eq h hb k]
/-- So many passes. -/
def itrW (xs : List Lnk) (s : Rch) : Nat → Rch
  | 0 => s
  | k + 1 => pasW xs (itrW xs s k) xs.length
theorem itrW_succ (xs : List Lnk) : ∀ k s, itrW xs (pasW xs s xs.length) k = itrW xs s (k + 1)
  | 0, _ => rfl
  | k + 1, s => by show pasW xs (itrW xs (pasW xs s xs.length) k) xs.length = _; rw [itrW_succ xs k s]; rfl
theorem itrW_len (xs : List Lnk) (s : Rch) : ∀ k, (itrW xs s k).m.length = s.m.length
  | 0 => rfl
  | k + 1 => (pasW_len xs _ _).1.trans (itrW_len xs s k)
/-- The run ends no higher than any number of passes. -/
theorem runW_le {xs : List Lnk} {n : Nat} (hx : ∀ l ∈ xs, okLnk n l) : ∀ k s j, s.m.length = n → j ≤ k → ∀ v, nth (runW xs k s).m v ≤ nth (itrW xs s j).m v
  | 0, s, j, hl, hj, v => by rw [show j = 0 by omega]; exact Int.le_refl _
  | k + 1, s, j, hl, hj, v => by
    have hl2 : (pasW xs s xs.length).m.length = n := by rw [(pasW_len xs s _).1]; exact hl
    rw [runW]
    split
    · rename_i hr
      have e := pasW_same hx xs.length (Nat.le_refl _) hr
      have hst : ∀ j, (itrW xs s j).m = s.m ∧ (itrW xs s j).b = s.b := fun j => by
        induction j with
        | zero => exact ⟨rfl, rfl⟩
        | succ j ih => 
          show (pasW xs (itrW xs s j) xs.length).m = _ ∧ (pasW xs (itrW xs s j) xs.length).b = _
          rw [pasW_eq ih.1 ih.2, e]; exact ⟨rfl, rfl⟩
      rw [e, (hst j).1]; exact Int.le_refl _
    · cases j with
      | zero => exact Int.le_trans (runW_le hx k _ 0 hl2 (by omega) v) (pasW_anti hx hl v xs.length 0 (by omega) (Nat.le_refl _))
      | succ j =>
        have := runW_le hx k (pasW xs s xs.length) j hl2 (by omega) v
        rw [itrW_succ] at this; exact this
/-- Where some pass changes nothing, there is no ring. -/
theorem runW_fit {xs : List Lnk} {n : Nat} (hx : ∀ l ∈ xs, okLnk n l) : ∀ k s j, s.m.length = n → j < k → (pasW xs (itrW xs s j) xs.length).ring < 0 → (runW xs k s).ring < 0
  | 0, s, j, hl, hj, _ => by omega
  | k + 1, s, j, hl, hj, h => by
    rw [runW]
    split
    · rename_i hr; exact hr
    · rename_i hr
      cases j with
      | zero => exact absurd h hr
      | succ j => exact runW_fit hx k _ j (by rw [(pasW_len xs s _).1]; exact hl) (by omega) (by rw [itrW_succ]; exact h)
/-- No link lowers anything: the pass changes nothing. -/
theorem pasW_none {xs : List Lnk} {s : Rch} (h : ∀ l ∈ xs, nth s.m l.t.toNat ≤ nth s.m l.f.toNat + l.m) : ∀ k, k ≤ xs.length → pasW xs s k = ⟨s.m, s.b, -1⟩
  | 0, _ => rfl
  | k + 1, hk => by
    have := h _ (nth_mem (xs := xs) (i := k) (by omega))
    show rlxW xs k (pasW xs s k) = _
    rw [pasW_none h k (by omega)]
    unfold rlxW
    rw [if_neg]
    unfold rlxWC
    dsimp only
    omega
/-- No ring: all links hold. -/
theorem runW_all {xs : List Lnk} {n : Nat} (hx : ∀ l ∈ xs, okLnk n l) : ∀ k s, 0 < k → s.m.length = n → (∀ v, v < n → nth s.m v < far9) → (runW xs k s).ring < 0 → ∀ l ∈ xs, nth (runW xs k s).m l.t.toNat ≤ nth (runW xs k s).m l.f.toNat + l.m
  | 0, s, hk, hl, hf, h => by omega
  | k + 1, s, hk, hl, hf, h => by
    rw [runW] at h ⊢
    have hl2 : (pasW xs s xs.length).m.length = n := by rw [(pasW_len xs s _).1]; exact hl
    split
    · rename_i hr
      intro l hm
      have ha := hx l hm
      unfold okLnk at ha
      have h1 := pasW_le hx hl hm (hf _ (by omega))
      rw [pasW_same hx xs.length (Nat.le_refl _) hr] at h1 ⊢
      exact h1
    · rename_i hr
      rw [if_neg hr] at h
      cases k with
      | zero => exact absurd h hr
      | succ k => exact runW_all hx (k + 1) _ (by omega) hl2 (fun v hv => Int.lt_of_le_of_lt (pasW_anti hx hl v xs.length 0 (by omega) (Nat.le_refl _)) (hf v hv)) h
theorem ini_nth {n v : Nat} {fr : Int} (h : v < n) : nth (iniW n fr).m v = iniV fr v := by
  unfold iniW
  dsimp only
  rw [nth_eq (by simpa using h)]; simp
theorem ini_len (n : Nat) (fr : Int) : (iniW n fr).m.length = n := by unfold iniW; simp

def lnk2 (f t lo hi : Int) : List Lnk := [⟨f, t, hi⟩, ⟨t, f, -lo⟩]
/-- An option. -/
structure Opt where
  k : Int
  e : Int
  c : Int
  a : Int
  lo : Int
  hi : Int
instance : Inhabited Opt := ⟨⟨default, default, default, default, default, default⟩⟩
structure Bcl where
  lo : Int
  hi : Int
instance : Inhabited Bcl := ⟨⟨default, default⟩⟩
def lnkE (i : Nat) : List Lnk := lnk2 0 (1 + (i : Int)) 0 1000000
def lnkC (n : Nat) (j : Nat) (b : Bcl) : List Lnk := lnk2 0 (1 + (n : Int) + (j : Int)) (-b.hi) (-b.lo)
def lnkO (n : Nat) (o : Opt) : List Lnk := if o.k = 2 then lnk2 (1 + o.a) (1 + o.e) o.lo o.hi else lnk2 (1 + (n : Int) + o.c) (1 + o.e) o.lo o.hi
def opE (k : Nat) : List Lnk := (List.range k).flatMap lnkE
def opC (n : Nat) (cs : List Bcl) (k : Nat) : List Lnk := (List.range k).flatMap fun j => lnkC n j (nth cs j)
def opO (n : Nat) (os : List Opt) (k : Nat) : List Lnk := (os.take k).flatMap (lnkO n)
def opnW (n : Nat) (cs : List Bcl) (os : List Opt) : List Lnk := opE n ++ opC n cs cs.length ++ opO n os os.length
def seen9 (i lo hi : Int) : Opt := ⟨1, i, 0, 0, lo, hi⟩
def gap9 (a e : Int) : Opt := ⟨2, e, 0, a, 1, 2000000⟩
def os4 (a b : Dty) : List Opt := [seen9 0 a.bl a.bh, seen9 1 a.el a.eh, seen9 2 b.bl b.bh, seen9 3 b.el b.eh]
def os6 (a b : Dty) : List Opt := os4 a b ++ [gap9 2 1, gap9 0 3]
def lst4 (a b : Dty) : List Lnk := [⟨0, 1, 1000000⟩, ⟨1, 0, 0⟩, ⟨0, 2, 1000000⟩, ⟨2, 0, 0⟩, ⟨0, 3, 1000000⟩, ⟨3, 0, 0⟩, ⟨0, 4, 1000000⟩, ⟨4, 0, 0⟩, ⟨0, 5, 0⟩, ⟨5, 0, 0⟩,
  ⟨5, 1, a.bh⟩, ⟨1, 5, -a.bl⟩, ⟨5, 2, a.eh⟩, ⟨2, 5, -a.el⟩, ⟨5, 3, b.bh⟩, ⟨3, 5, -b.bl⟩, ⟨5, 4, b.eh⟩, ⟨4, 5, -b.el⟩]
def lst6 (a b : Dty) : List Lnk := lst4 a b ++ [⟨3, 2, 2000000⟩, ⟨2, 3, -1⟩, ⟨1, 4, 2000000⟩, ⟨4, 1, -1⟩]
theorem ok_of {d : Dty} (h : okDty d = true) : 0 ≤ d.bl ∧ d.bl ≤ d.bh ∧ d.bh ≤ d.el ∧ d.el ≤ d.eh ∧ d.eh ≤ 20160 := by
  unfold okDty at h; rw [decide_eq_true_eq] at h; omega
theorem lst4_ok {a b : Dty} (ha : okDty a = true) (hb : okDty b = true) : ∀ l ∈ lst4 a b, okLnk 6 l := by
  have h1 := ok_of ha; have h2 := ok_of hb
  intro l hl
  unfold lst4 at hl
  simp only [List.mem_cons, List.not_mem_nil, or_false] at hl
  unfold okLnk
  rcases hl with rfl | rfl | rfl | rfl | rfl | rfl | rfl | rfl | rfl | rfl | rfl | rfl | rfl | rfl | rfl | rfl | rfl | rfl <;> dsimp only <;> omega
theorem lst6_ok {a b : Dty} (ha : okDty a = true) (hb : okDty b = true) : ∀ l ∈ lst6 a b, okLnk 6 l := by
  intro l hl
  unfold lst6 at hl
  rcases List.mem_append.1 hl with q | q
  · exact lst4_ok ha hb l q
  · simp only [List.mem_cons, List.not_mem_nil, or_false] at q
    unfold okLnk
    rcases q with rfl | rfl | rfl | rfl <;> dsimp only <;> omega
def ofL (l : List Int) (v : Nat) : Int := nth l v
/-- Six values hold all links. -/
theorem hold4 {a b : Dty} {d : List Int} {d0 d1 d2 d3 d4 d5 : Int} (e : d = [d0, d1, d2, d3, d4, d5])
    (h : (d1 ≤ d0 + 1000000 ∧ d0 ≤ d1) ∧ (d2 ≤ d0 + 1000000 ∧ d0 ≤ d2) ∧ (d3 ≤ d0 + 1000000 ∧ d0 ≤ d3) ∧ (d4 ≤ d0 + 1000000 ∧ d0 ≤ d4) ∧ (d5 ≤ d0 ∧ d0 ≤ d5) ∧
      (d1 ≤ d5 + a.bh ∧ d5 ≤ d1 - a.bl) ∧ (d2 ≤ d5 + a.eh ∧ d5 ≤ d2 - a.el) ∧ (d3 ≤ d5 + b.bh ∧ d5 ≤ d3 - b.bl) ∧ (d4 ≤ d5 + b.eh ∧ d5 ≤ d4 - b.el)) : ∀ l ∈ lst4 a b, ofL d l.t.toNat ≤ ofL d l.f.toNat + l.m := by
  subst e
  intro l hl
  unfold lst4 at hl
  simp only [List.mem_cons, List.not_mem_nil, or_false] at hl
  rcases hl with rfl | rfl | rfl | rfl | rfl | rfl | rfl | rfl | rfl | rfl | rfl | rfl | rfl | rfl | rfl | rfl | rfl | rfl <;> simp only [ofL, nth, List.getD_eq_getElem?_getD] <;> simp <;> omega
theorem hold6 {a b : Dty} {d : List Int} {d0 d1 d2 d3 d4 d5 : Int} (e : d = [d0, d1, d2, d3, d4, d5])
    (h : (d1 ≤ d0 + 1000000 ∧ d0 ≤ d1) ∧ (d2 ≤ d0 + 1000000 ∧ d0 ≤ d2) ∧ (d3 ≤ d0 + 1000000 ∧ d0 ≤ d3) ∧ (d4 ≤ d0 + 1000000 ∧ d0 ≤ d4) ∧ (d5 ≤ d0 ∧ d0 ≤ d5) ∧
      (d1 ≤ d5 + a.bh ∧ d5 ≤ d1 - a.bl) ∧ (d2 ≤ d5 + a.eh ∧ d5 ≤ d2 - a.el) ∧ (d3 ≤ d5 + b.bh ∧ d5 ≤ d3 - b.bl) ∧ (d4 ≤ d5 + b.eh ∧ d5 ≤ d4 - b.el))
    (h2 : (d2 ≤ d3 + 2000000 ∧ d3 ≤ d2 - 1) ∧ (d4 ≤ d1 + 2000000 ∧ d1 ≤ d4 - 1)) : ∀ l ∈ lst6 a b, ofL d l.t.toNat ≤ ofL d l.f.toNat + l.m := by
  intro l hl
  unfold lst6 at hl
  rcases List.mem_append.1 hl with q | q
  · exact hold4 e h l q
  · subst e
    simp only [List.mem_cons, List.not_mem_nil, or_false] at q
    rcases q with rfl | rfl | rfl | rfl <;> simp only [ofL, nth, List.getD_eq_getElem?_getD] <;> simp <;> omega
theorem six {P : Nat → Prop} (h : P 0 ∧ P 1 ∧ P 2 ∧ P 3 ∧ P 4 ∧ P 5) : ∀ v, v < 6 → P v := by
  intro v hv
  match v, hv with
  | 0, _ => exact h.1
  | 1, _ => exact h.2.1
  | 2, _ => exact h.2.2.1
  | 3, _ => exact h.2.2.2.1
  | 4, _ => exact h.2.2.2.2.1
  | 5, _ => exact h.2.2.2.2.2
/-- Four events that were seen: from a variable, the greatest differences. -/
theorem rch4 {a b : Dty} (ha : okDty a = true) (hb : okDty b = true) {s : Rch} (hs : s.m.length = 6) {d : List Int} (hd : ∀ l ∈ lst4 a b, ofL d l.t.toNat ≤ ofL d l.f.toNat + l.m) (h0 : ∀ v, v < 6 → ofL d v ≤ nth s.m v) {v j : Nat} (hv : v < 6) (hj : j ≤ 6) (h : nth (itrW (lst4 a b) s j).m v ≤ ofL d v) : nth (runW (lst4 a b) 6 s).m v = ofL d v :=
  Int.le_antisymm (Int.le_trans (runW_le (lst4_ok ha hb) 6 s j hs hj v) h) (runW_low (lst4_ok ha hb) hd 6 s hs h0 v hv)
theorem itr_step {xs : List Lnk} (hx : ∀ l ∈ xs, okLnk 6 l) {s : Rch} (hl : s.m.length = 6) {l : Lnk} (h : l ∈ xs) (j : Nat) {x : Int} (hf : nth (itrW xs s j).m l.f.toNat ≤ x) (hx9 : x < far9) : nth (itrW xs s (j + 1)).m l.t.toNat ≤ x + l.m := by
  have := pasW_le hx (s := itrW xs s j) (by rw [itrW_len]; exact hl) h (by omega)
  show nth (pasW xs (itrW xs s j) xs.length).m l.t.toNat ≤ _
  omega
theorem itr_anti {xs : List Lnk} (hx : ∀ l ∈ xs, okLnk 6 l) {s : Rch} (hl : s.m.length = 6) (j v : Nat) : nth (itrW xs s (j + 1)).m v ≤ nth (itrW xs s j).m v :=
  pasW_anti hx (by rw [itrW_len]; exact hl) v xs.length 0 (by omega) (Nat.le_refl _)
theorem itr_low {xs : List Lnk} (hx : ∀ l ∈ xs, okLnk 6 l) {d : Nat → Int} (hd : ∀ l ∈ xs, d l.t.toNat ≤ d l.f.toNat + l.m) {s : Rch} (hl : s.m.length = 6) (h : ∀ v, v < 6 → d v ≤ nth s.m v) : ∀ j v, v < 6 → d v ≤ nth (itrW xs s j).m v
  | 0 => h
  | j + 1 => pasW_low hx (by rw [itrW_len]; exact hl) hd (itr_low hx hd hl h j) xs.length (Nat.le_refl _)
/-- Where the values have come down to those that hold all links, the next pass changes nothing. -/
theorem fit_of {xs : List Lnk} (hx : ∀ l ∈ xs, okLnk 6 l) {d : Nat → Int} (hd : ∀ l ∈ xs, d l.t.toNat ≤ d l.f.toNat + l.m) {s : Rch} (hl : s.m.length = 6) (h : ∀ v, v < 6 → d v ≤ nth s.m v) {j : Nat} (hj : j < 6) (hle : ∀ v, v < 6 → nth (itrW xs s j).m v ≤ d v) : (runW xs 6 s).ring < 0 := by
  refine runW_fit hx 6 s j hl hj ?_
  have e : ∀ v, v < 6 → nth (itrW xs s j).m v = d v := fun v hv => Int.le_antisymm (hle v hv) (itr_low hx hd hl h j v hv)
  rw [pasW_none (fun l hm => ?_) xs.length (Nat.le_refl _)]
  · show (-1 : Int) < 0; decide
  · have ha := hx l hm
    unfold okLnk at ha
    rw [e _ (by omega), e _ (by omega)]; exact hd l hm

/-- How far a variable is from one that leads to the hub. -/
theorem far_of {a b : Dty} (ha : okDty a = true) (hb : okDty b = true) {fr v : Nat} (hfr : fr < 6) {lo m : Int} (h1 : (⟨(fr : Int), 5, -lo⟩ : Lnk) ∈ lst4 a b) (h2 : (⟨5, (v : Int), m⟩ : Lnk) ∈ lst4 a b) (hv : v < 6) (hlo : 0 ≤ lo) {d : List Int}
    (hd : ∀ l ∈ lst4 a b, ofL d l.t.toNat ≤ ofL d l.f.toNat + l.m) (h0 : ∀ u, u < 6 → ofL d u ≤ iniV (fr : Int) u) (e : ofL d v = -lo + m) : nth (rchW 6 (lst4 a b) (fr : Int)).m v = -lo + m := by
  have hx := lst4_ok ha hb
  have hl := ini_len 6 (fr : Int)
  unfold rchW
  rw [← e]
  refine rch4 ha hb hl hd (fun u hu => by rw [ini_nth hu]; exact h0 u hu) hv (j := 2) (by omega) ?_
  have p0 : nth (itrW (lst4 a b) (iniW 6 (fr : Int)) 0).m ((⟨(fr : Int), 5, -lo⟩ : Lnk).f.toNat) ≤ 0 := by
    show nth (iniW 6 (fr : Int)).m (fr : Int).toNat ≤ 0
    rw [Int.toNat_natCast, ini_nth hfr]
    unfold iniV
    rw [if_pos (.inl rfl)]; exact Int.le_refl _
  have p1 := itr_step hx hl h1 0 p0 (by decide)
  have p2 := itr_step hx hl h2 1 p1 (by show (0 : Int) + -lo < 1099511627776; omega)
  have p3 : nth (itrW (lst4 a b) (iniW 6 (fr : Int)) 2).m (v : Int).toNat ≤ (0 : Int) + -lo + m := p2
  rw [Int.toNat_natCast] at p3
  rw [e]; omega
theorem hi9 {a b : Dty} (ha : okDty a = true) (hb : okDty b = true) : nth (rchW 6 (lst4 a b) 0).m 1 = a.bh ∧ nth (rchW 6 (lst4 a b) 0).m 2 = a.eh ∧ nth (rchW 6 (lst4 a b) 0).m 3 = b.bh ∧ nth (rchW 6 (lst4 a b) 0).m 4 = b.eh := by
  have h1 := ok_of ha; have h2 := ok_of hb
  have hd := hold4 (a := a) (b := b) (d := [0, a.bh, a.eh, b.bh, b.eh, 0]) rfl (by omega)
  have h0 : ∀ u, u < 6 → ofL [0, a.bh, a.eh, b.bh, b.eh, 0] u ≤ iniV ((0 : Nat) : Int) u := six ⟨Int.le_refl _, by show a.bh ≤ 1099511627776; omega, by show a.eh ≤ 1099511627776; omega, by show b.bh ≤ 1099511627776; omega, by show b.eh ≤ 1099511627776; omega, by show (0 : Int) ≤ 1099511627776; decide⟩
  have hm : (⟨((0 : Nat) : Int), 5, -0⟩ : Lnk) ∈ lst4 a b := by unfold lst4; simp
  have g : ∀ (v : Nat) (m : Int), v < 6 → (⟨5, (v : Int), m⟩ : Lnk) ∈ lst4 a b → ofL [0, a.bh, a.eh, b.bh, b.eh, 0] v = -0 + m → nth (rchW 6 (lst4 a b) 0).m v = m := fun v m hv hq he => by
    have := far_of ha hb (fr := 0) (by omega) hm hq hv (by omega) hd h0 he
    have e : nth (rchW 6 (lst4 a b) 0).m v = -0 + m := this
    omega
  exact ⟨g 1 _ (by omega) (by unfold lst4; simp) (by show a.bh = _; omega), g 2 _ (by omega) (by unfold lst4; simp) (by show a.eh = _; omega), g 3 _ (by omega) (by unfold lst4; simp) (by show b.bh = _; omega), g 4 _ (by omega) (by unfold lst4; simp) (by show b.eh = _; omega)⟩
theorem lo1 {a b : Dty} (ha : okDty a = true) (hb : okDty b = true) : nth (rchW 6 (lst4 a b) 1).m 0 = -a.bl ∧ nth (rchW 6 (lst4 a b) 1).m 2 = -a.bl + a.eh := by
  have h1 := ok_of ha; have h2 := ok_of hb
  have hd := hold4 (a := a) (b := b) (d := [-a.bl, 0, -a.bl + a.eh, -a.bl + b.bh, -a.bl + b.eh, -a.bl]) rfl (by omega)
  have h0 : ∀ u, u < 6 → ofL [-a.bl, 0, -a.bl + a.eh, -a.bl + b.bh, -a.bl + b.eh, -a.bl] u ≤ iniV ((1 : Nat) : Int) u := six ⟨by show -a.bl ≤ 1099511627776; omega, Int.le_refl _, by show -a.bl + a.eh ≤ 1099511627776; omega, by show -a.bl + b.bh ≤ 1099511627776; omega, by show -a.bl + b.eh ≤ 1099511627776; omega, by show -a.bl ≤ 1099511627776; omega⟩
  have hm : (⟨((1 : Nat) : Int), 5, -a.bl⟩ : Lnk) ∈ lst4 a b := by unfold lst4; simp
  have e1 := far_of ha hb (fr := 1) (v := 0) (m := 0) (by omega) hm (by unfold lst4; simp) (by omega) (by omega) hd h0 (by show -a.bl = _; omega)
  have e2 := far_of ha hb (fr := 1) (v := 2) (m := a.eh) (by omega) hm (by unfold lst4; simp) (by omega) (by omega) hd h0 rfl
  have e1' : nth (rchW 6 (lst4 a b) 1).m 0 = -a.bl + 0 := e1
  exact ⟨by omega, e2⟩
theorem lo2 {a b : Dty} (ha : okDty a = true) (hb : okDty b = true) : nth (rchW 6 (lst4 a b) 2).m 0 = -a.el ∧ nth (rchW 6 (lst4 a b) 2).m 1 = -a.el + a.bh := by
  have h1 := ok_of ha; have h2 := ok_of hb
  have hd := hold4 (a := a) (b := b) (d := [-a.el, -a.el + a.bh, 0, -a.el + b.bh, -a.el + b.eh, -a.el]) rfl (by omega)
  have h0 : ∀ u, u < 6 → ofL [-a.el, -a.el + a.bh, 0, -a.el + b.bh, -a.el + b.eh, -a.el] u ≤ iniV ((2 : Nat) : Int) u := six ⟨by show -a.el ≤ 1099511627776; omega, by show -a.el + a.bh ≤ 1099511627776; omega, Int.le_refl _, by show -a.el + b.bh ≤ 1099511627776; omega, by show -a.el + b.eh ≤ 1099511627776; omega, by show -a.el ≤ 1099511627776; omega⟩
  have hm : (⟨((2 : Nat) : Int), 5, -a.el⟩ : Lnk) ∈ lst4 a b := by unfold lst4; simp
  have e1 := far_of ha hb (fr := 2) (v := 0) (m := 0) (by omega) hm (by unfold lst4; simp) (by omega) (by omega) hd h0 (by show -a.el = _; omega)
  have e2 := far_of ha hb (fr := 2) (v := 1) (m := a.bh) (by omega) hm (by unfold lst4; simp) (by omega) (by omega) hd h0 rfl
  have e1' : nth (rchW 6 (lst4 a b) 2).m 0 = -a.el + 0 := e1
  exact ⟨by omega, e2⟩
theorem lo3 {a b : Dty} (ha : okDty a = true) (hb : okDty b = true) : nth (rchW 6 (lst4 a b) 3).m 0 = -b.bl := by
  have h1 := ok_of ha; have h2 := ok_of hb
  have hd := hold4 (a := a) (b := b) (d := [-b.bl, -b.bl + a.bh, -b.bl + a.eh, 0, -b.bl + b.eh, -b.bl]) rfl (by omega)
  have h0 : ∀ u, u < 6 → ofL [-b.bl, -b.bl + a.bh, -b.bl + a.eh, 0, -b.bl + b.eh, -b.bl] u ≤ iniV ((3 : Nat) : Int) u := six ⟨by show -b.bl ≤ 1099511627776; omega, by show -b.bl + a.bh ≤ 1099511627776; omega, by show -b.bl + a.eh ≤ 1099511627776; omega, Int.le_refl _, by show -b.bl + b.eh ≤ 1099511627776; omega, by show -b.bl ≤ 1099511627776; omega⟩
  have hm : (⟨((3 : Nat) : Int), 5, -b.bl⟩ : Lnk) ∈ lst4 a b := by unfold lst4; simp
  have e1 := far_of ha hb (fr := 3) (v := 0) (m := 0) (by omega) hm (by unfold lst4; simp) (by omega) (by omega) hd h0 (by show -b.bl = _; omega)
  have e1' : nth (rchW 6 (lst4 a b) 3).m 0 = -b.bl + 0 := e1
  omega
theorem lo4 {a b : Dty} (ha : okDty a = true) (hb : okDty b = true) : nth (rchW 6 (lst4 a b) 4).m 0 = -b.el := by
  have h1 := ok_of ha; have h2 := ok_of hb
  have hd := hold4 (a := a) (b := b) (d := [-b.el, -b.el + a.bh, -b.el + a.eh, -b.el + b.bh, 0, -b.el]) rfl (by omega)
  have h0 : ∀ u, u < 6 → ofL [-b.el, -b.el + a.bh, -b.el + a.eh, -b.el + b.bh, 0, -b.el] u ≤ iniV ((4 : Nat) : Int) u := six ⟨by show -b.el ≤ 1099511627776; omega, by show -b.el + a.bh ≤ 1099511627776; omega, by show -b.el + a.eh ≤ 1099511627776; omega, by show -b.el + b.bh ≤ 1099511627776; omega, Int.le_refl _, by show -b.el ≤ 1099511627776; omega⟩
  have hm : (⟨((4 : Nat) : Int), 5, -b.el⟩ : Lnk) ∈ lst4 a b := by unfold lst4; simp
  have e1 := far_of ha hb (fr := 4) (v := 0) (m := 0) (by omega) hm (by unfold lst4; simp) (by omega) (by omega) hd h0 (by show -b.el = _; omega)
  have e1' : nth (rchW 6 (lst4 a b) 4).m 0 = -b.el + 0 := e1
  omega
theorem ini_m1 {v : Nat} (hv : v < 6) : nth (iniW 6 (-1)).m v = 0 := by rw [ini_nth hv]; unfold iniV; rw [if_pos (.inr (by decide))]
/-- Four events that were seen: all links can hold. -/
theorem fit4 {a b : Dty} (ha : okDty a = true) (hb : okDty b = true) : (rchW 6 (lst4 a b) (-1)).ring < 0 := by
  have h1 := ok_of ha; have h2 := ok_of hb
  have hx := lst4_ok ha hb; have hl := ini_len 6 (-1)
  obtain ⟨z, hz, hz1, hz2, hz3, hz4⟩ : ∃ z : Int, (z = -a.bl ∨ z = -a.el ∨ z = -b.bl ∨ z = -b.el) ∧ z ≤ -a.bl ∧ z ≤ -a.el ∧ z ≤ -b.bl ∧ z ≤ -b.el := ⟨min (min (-a.bl) (-a.el)) (min (-b.bl) (-b.el)), by omega, by omega, by omega, by omega, by omega⟩
  have hd := hold4 (a := a) (b := b) (d := [z, min 0 (z + a.bh), min 0 (z + a.eh), min 0 (z + b.bh), min 0 (z + b.eh), z]) rfl (by omega)
  have hs0 : ∀ v, v < 6 → nth (itrW (lst4 a b) (iniW 6 (-1)) 0).m v ≤ 0 := fun v hv => by show nth (iniW 6 (-1)).m v ≤ 0; rw [ini_m1 hv]; exact Int.le_refl _
  refine fit_of (d := ofL [z, min 0 (z + a.bh), min 0 (z + a.eh), min 0 (z + b.bh), min 0 (z + b.eh), z]) hx hd hl (six ⟨?_, ?_, ?_, ?_, ?_, ?_⟩) (j := 2) (by omega) (six ⟨?_, ?_, ?_, ?_, ?_, ?_⟩)
  · rw [ini_m1 (by omega)]; show z ≤ 0; omega
  · rw [ini_m1 (by omega)]; show min 0 (z + a.bh) ≤ 0; omega
  · rw [ini_m1 (by omega)]; show min 0 (z + a.eh) ≤ 0; omega
  · rw [ini_m1 (by omega)]; show min 0 (z + b.bh) ≤ 0; omega
  · rw [ini_m1 (by omega)]; show min 0 (z + b.eh) ≤ 0; omega
  · rw [ini_m1 (by omega)]; show z ≤ 0; omega
  all_goals
    have st := fun {l : Lnk} (h : l ∈ lst4 a b) j x (hf : nth (itrW (lst4 a b) (iniW 6 (-1)) j).m l.f.toNat ≤ x) (hx9 : x ≤ 0) => itr_step hx hl h j (x := x) hf (by unfold far9; omega)
    have an := fun j v => itr_anti hx hl (s := iniW 6 (-1)) j v
    have a1 := st (l := ⟨1, 5, -a.bl⟩) (by unfold lst4; simp) 0 0 (hs0 1 (by omega)) (by omega)
    have a2 := st (l := ⟨2, 5, -a.el⟩) (by unfold lst4; simp) 0 0 (hs0 2 (by omega)) (by omega)
    have a3 := st (l := ⟨3, 5, -b.bl⟩) (by unfold lst4; simp) 0 0 (hs0 3 (by omega)) (by omega)
    have a4 := st (l := ⟨4, 5, -b.el⟩) (by unfold lst4; simp) 0 0 (hs0 4 (by omega)) (by omega)
    have a5 : nth (itrW (lst4 a b) (iniW 6 (-1)) 1).m 5 ≤ z := by
      have b1 : nth (itrW (lst4 a b) (iniW 6 (-1)) 1).m 5 ≤ 0 + -a.bl := a1
      have b2 : nth (itrW (lst4 a b) (iniW 6 (-1)) 1).m 5 ≤ 0 + -a.el := a2
      have b3 : nth (itrW (lst4 a b) (iniW 6 (-1)) 1).m 5 ≤ 0 + -b.bl := a3
      have b4 : nth (itrW (lst4 a b) (iniW 6 (-1)) 1).m 5 ≤ 0 + -b.el := a4
      omega
    have z0 : z ≤ 0 := by omega
  · have := st (l := ⟨5, 0, 0⟩) (by unfold lst4; simp) 1 z a5 z0
    have e : nth (itrW (lst4 a b) (iniW 6 (-1)) 2).m 0 ≤ z + 0 := this
    show _ ≤ z; omega
  · have : nth (itrW (lst4 a b) (iniW 6 (-1)) 2).m 1 ≤ z + a.bh := st (l := ⟨5, 1, a.bh⟩) (by unfold lst4; simp) 1 z a5 z0
    have q := hs0 1 (by omega); have q1 : nth (itrW (lst4 a b) (iniW 6 (-1)) 1).m 1 ≤ nth (itrW (lst4 a b) (iniW 6 (-1)) 0).m 1 := an 0 1; have q2 : nth (itrW (lst4 a b) (iniW 6 (-1)) 2).m 1 ≤ nth (itrW (lst4 a b) (iniW 6 (-1)) 1).m 1 := an 1 1
    show _ ≤ min 0 (z + a.bh); omega
  · have : nth (itrW (lst4 a b) (iniW 6 (-1)) 2).m 2 ≤ z + a.eh := st (l := ⟨5, 2, a.eh⟩) (by unfold lst4; simp) 1 z a5 z0
    have q := hs0 2 (by omega); have q1 : nth (itrW (lst4 a b) (iniW 6 (-1)) 1).m 2 ≤ nth (itrW (lst4 a b) (iniW 6 (-1)) 0).m 2 := an 0 2; have q2 : nth (itrW (lst4 a b) (iniW 6 (-1)) 2).m 2 ≤ nth (itrW (lst4 a b) (iniW 6 (-1)) 1).m 2 := an 1 2
    show _ ≤ min 0 (z + a.eh); omega
  · have : nth (itrW (lst4 a b) (iniW 6 (-1)) 2).m 3 ≤ z + b.bh := st (l := ⟨5, 3, b.bh⟩) (by unfold lst4; simp) 1 z a5 z0
    have q := hs0 3 (by omega); have q1 : nth (itrW (lst4 a b) (iniW 6 (-1)) 1).m 3 ≤ nth (itrW (lst4 a b) (iniW 6 (-1)) 0).m 3 := an 0 3; have q2 : nth (itrW (lst4 a b) (iniW 6 (-1)) 2).m 3 ≤ nth (itrW (lst4 a b) (iniW 6 (-1)) 1).m 3 := an 1 3
    show _ ≤ min 0 (z + b.bh); omega
  · have : nth (itrW (lst4 a b) (iniW 6 (-1)) 2).m 4 ≤ z + b.eh := st (l := ⟨5, 4, b.eh⟩) (by unfold lst4; simp) 1 z a5 z0
    have q := hs0 4 (by omega); have q1 : nth (itrW (lst4 a b) (iniW 6 (-1)) 1).m 4 ≤ nth (itrW (lst4 a b) (iniW 6 (-1)) 0).m 4 := an 0 4; have q2 : nth (itrW (lst4 a b) (iniW 6 (-1)) 2).m 4 ≤ nth (itrW (lst4 a b) (iniW 6 (-1)) 1).m 4 := an 1 4
    show _ ≤ min 0 (z + b.eh); omega
  · have q2 : nth (itrW (lst4 a b) (iniW 6 (-1)) 2).m 5 ≤ nth (itrW (lst4 a b) (iniW 6 (-1)) 1).m 5 := an 1 5
    show _ ≤ z; omega

theorem no6 {a b : Dty} (ha : okDty a = true) (hb : okDty b = true) (h : (rchW 6 (lst6 a b) (-1)).ring < 0) : b.bl < a.eh ∧ a.bl < b.eh := by
  have hall := runW_all (lst6_ok ha hb) 6 (iniW 6 (-1)) (by omega) (ini_len 6 (-1)) (fun v hv => by rw [ini_m1 hv]; decide) h
  generalize runW (lst6 a b) 6 (iniW 6 (-1)) = R at hall
  have q1 : nth R.m 3 ≤ nth R.m 2 + -1 := hall ⟨2, 3, -1⟩ (by unfold lst6; simp)
  have q2 : nth R.m 5 ≤ nth R.m 3 + -b.bl := hall ⟨3, 5, -b.bl⟩ (by unfold lst6 lst4; simp)
  have q3 : nth R.m 2 ≤ nth R.m 5 + a.eh := hall ⟨5, 2, a.eh⟩ (by unfold lst6 lst4; simp)
  have q4 : nth R.m 1 ≤ nth R.m 4 + -1 := hall ⟨4, 1, -1⟩ (by unfold lst6; simp)
  have q5 : nth R.m 5 ≤ nth R.m 1 + -a.bl := hall ⟨1, 5, -a.bl⟩ (by unfold lst6 lst4; simp)
  have q6 : nth R.m 4 ≤ nth R.m 5 + b.eh := hall ⟨5, 4, b.eh⟩ (by unfold lst6 lst4; simp)
  omega
/-- Each one can end later than the other one begins: all links can hold. -/
theorem fit6 {a b : Dty} (ha : okDty a = true) (hb : okDty b = true) (ho1 : b.bl < a.eh) (ho2 : a.bl < b.eh) : (rchW 6 (lst6 a b) (-1)).ring < 0 := by
  have h1 := ok_of ha; have h2 := ok_of hb
  have hx := lst6_ok ha hb; have hl := ini_len 6 (-1)
  obtain ⟨z, hz, hz1, hz2, hz3, hz4⟩ : ∃ z : Int, (z = -a.bl - 1 ∨ z = -a.el ∨ z = -b.bl - 1 ∨ z = -b.el) ∧ z ≤ -a.bl - 1 ∧ z ≤ -a.el ∧ z ≤ -b.bl - 1 ∧ z ≤ -b.el := ⟨min (min (-a.bl - 1) (-a.el)) (min (-b.bl - 1) (-b.el)), by omega, by omega, by omega, by omega, by omega⟩
  have hd := hold6 (a := a) (b := b) (d := [z, min (-1) (min (z + a.bh) (z + b.eh - 1)), min 0 (z + a.eh), min (-1) (min (z + b.bh) (z + a.eh - 1)), min 0 (z + b.eh), z]) rfl (by omega) (by omega)
  refine fit_of (d := ofL [z, min (-1) (min (z + a.bh) (z + b.eh - 1)), min 0 (z + a.eh), min (-1) (min (z + b.bh) (z + a.eh - 1)), min 0 (z + b.eh), z]) hx hd hl (six ⟨?_, ?_, ?_, ?_, ?_, ?_⟩) (j := 4) (by omega) ?_
  · rw [ini_m1 (by omega)]; show z ≤ 0; omega
  · rw [ini_m1 (by omega)]; show min (-1) (min (z + a.bh) (z + b.eh - 1)) ≤ 0; omega
  · rw [ini_m1 (by omega)]; show min 0 (z + a.eh) ≤ 0; omega
  · rw [ini_m1 (by omega)]; show min (-1) (min (z + b.bh) (z + a.eh - 1)) ≤ 0; omega
  · rw [ini_m1 (by omega)]; show min 0 (z + b.eh) ≤ 0; omega
  · rw [ini_m1 (by omega)]; show z ≤ 0; omega
  have st := fun {l : Lnk} (h : l ∈ lst6 a b) j x (hf : nth (itrW (lst6 a b) (iniW 6 (-1)) j).m l.f.toNat ≤ x) (hx9 : x ≤ 0) => itr_step hx hl h j (x := x) hf (by unfold far9; omega)
  have s0 : ∀ v, v < 6 → nth (itrW (lst6 a b) (iniW 6 (-1)) 0).m v ≤ 0 := fun v hv => by show nth (iniW 6 (-1)).m v ≤ 0; rw [ini_m1 hv]; exact Int.le_refl _
  have an := fun j v => itr_anti hx hl (s := iniW 6 (-1)) j v
  have dn : ∀ v x, nth (itrW (lst6 a b) (iniW 6 (-1)) 1).m v ≤ x → nth (itrW (lst6 a b) (iniW 6 (-1)) 2).m v ≤ x ∧ nth (itrW (lst6 a b) (iniW 6 (-1)) 3).m v ≤ x ∧ nth (itrW (lst6 a b) (iniW 6 (-1)) 4).m v ≤ x := fun v x h => by
    have q1 : nth (itrW (lst6 a b) (iniW 6 (-1)) 2).m v ≤ nth (itrW (lst6 a b) (iniW 6 (-1)) 1).m v := an 1 v
    have q2 : nth (itrW (lst6 a b) (iniW 6 (-1)) 3).m v ≤ nth (itrW (lst6 a b) (iniW 6 (-1)) 2).m v := an 2 v
    have q3 : nth (itrW (lst6 a b) (iniW 6 (-1)) 4).m v ≤ nth (itrW (lst6 a b) (iniW 6 (-1)) 3).m v := an 3 v
    omega
  have s1 : ∀ v, v < 6 → nth (itrW (lst6 a b) (iniW 6 (-1)) 1).m v ≤ 0 := fun v hv => by
    have q1 : nth (itrW (lst6 a b) (iniW 6 (-1)) 1).m v ≤ nth (itrW (lst6 a b) (iniW 6 (-1)) 0).m v := an 0 v
    have := s0 v hv; omega
  have m1 : nth (itrW (lst6 a b) (iniW 6 (-1)) 1).m 1 ≤ 0 + -1 := st (l := ⟨4, 1, -1⟩) (by unfold lst6; simp) 0 0 (s0 4 (by omega)) (by omega)
  have m3 : nth (itrW (lst6 a b) (iniW 6 (-1)) 1).m 3 ≤ 0 + -1 := st (l := ⟨2, 3, -1⟩) (by unfold lst6; simp) 0 0 (s0 2 (by omega)) (by omega)
  have m5 : nth (itrW (lst6 a b) (iniW 6 (-1)) 1).m 5 ≤ 0 + -a.el := st (l := ⟨2, 5, -a.el⟩) (by unfold lst6 lst4; simp) 0 0 (s0 2 (by omega)) (by omega)
  have m6 : nth (itrW (lst6 a b) (iniW 6 (-1)) 1).m 5 ≤ 0 + -b.el := st (l := ⟨4, 5, -b.el⟩) (by unfold lst6 lst4; simp) 0 0 (s0 4 (by omega)) (by omega)
  have m7 : nth (itrW (lst6 a b) (iniW 6 (-1)) 2).m 5 ≤ -1 + -a.bl := st (l := ⟨1, 5, -a.bl⟩) (by unfold lst6 lst4; simp) 1 (-1) m1 (by omega)
  have m8 : nth (itrW (lst6 a b) (iniW 6 (-1)) 2).m 5 ≤ -1 + -b.bl := st (l := ⟨3, 5, -b.bl⟩) (by unfold lst6 lst4; simp) 1 (-1) m3 (by omega)
  have m9 : nth (itrW (lst6 a b) (iniW 6 (-1)) 2).m 5 ≤ nth (itrW (lst6 a b) (iniW 6 (-1)) 1).m 5 := an 1 5
  have mz : nth (itrW (lst6 a b) (iniW 6 (-1)) 2).m 5 ≤ z := by omega
  have z0 : z ≤ 0 := by omega
  have n0 : nth (itrW (lst6 a b) (iniW 6 (-1)) 3).m 0 ≤ z + 0 := st (l := ⟨5, 0, 0⟩) (by unfold lst6 lst4; simp) 2 z mz z0
  have n1 : nth (itrW (lst6 a b) (iniW 6 (-1)) 3).m 1 ≤ z + a.bh := st (l := ⟨5, 1, a.bh⟩) (by unfold lst6 lst4; simp) 2 z mz z0
  have n2 : nth (itrW (lst6 a b) (iniW 6 (-1)) 3).m 2 ≤ z + a.eh := st (l := ⟨5, 2, a.eh⟩) (by unfold lst6 lst4; simp) 2 z mz z0
  have n3 : nth (itrW (lst6 a b) (iniW 6 (-1)) 3).m 3 ≤ z + b.bh := st (l := ⟨5, 3, b.bh⟩) (by unfold lst6 lst4; simp) 2 z mz z0
  have n4 : nth (itrW (lst6 a b) (iniW 6 (-1)) 3).m 4 ≤ z + b.eh := st (l := ⟨5, 4, b.eh⟩) (by unfold lst6 lst4; simp) 2 z mz z0
  have y2 := dn 2 0 (s1 2 (by omega)); have y4 := dn 4 0 (s1 4 (by omega)); have y1 := dn 1 _ m1; have y3 := dn 3 _ m3
  have d4 : ∀ v, nth (itrW (lst6 a b) (iniW 6 (-1)) 4).m v ≤ nth (itrW (lst6 a b) (iniW 6 (-1)) 3).m v := fun v => an 3 v
  have p1 : nth (itrW (lst6 a b) (iniW 6 (-1)) 4).m 1 ≤ min 0 (z + b.eh) + -1 := st (l := ⟨4, 1, -1⟩) (by unfold lst6; simp) 3 (min 0 (z + b.eh)) (by show nth (itrW (lst6 a b) (iniW 6 (-1)) 3).m 4 ≤ _; omega) (by omega)
  have p3 : nth (itrW (lst6 a b) (iniW 6 (-1)) 4).m 3 ≤ min 0 (z + a.eh) + -1 := st (l := ⟨2, 3, -1⟩) (by unfold lst6; simp) 3 (min 0 (z + a.eh)) (by show nth (itrW (lst6 a b) (iniW 6 (-1)) 3).m 2 ≤ _; omega) (by omega)
  refine six ⟨?_, ?_, ?_, ?_, ?_, ?_⟩
  · have := d4 0; show _ ≤ z; omega
  · have := d4 1; show _ ≤ min (-1) (min (z + a.bh) (z + b.eh - 1)); omega
  · have := d4 2; show _ ≤ min 0 (z + a.eh); omega
  · have := d4 3; show _ ≤ min (-1) (min (z + b.bh) (z + a.eh - 1)); omega
  · have := d4 4; show _ ≤ min 0 (z + b.eh); omega
  · have := d4 5
    have e : nth (itrW (lst6 a b) (iniW 6 (-1)) 3).m 5 ≤ nth (itrW (lst6 a b) (iniW 6 (-1)) 2).m 5 := an 2 5
    show _ ≤ z; omega

/-- The rules of the statement: nothing but a rest of a minute. -/
def rlO : Rul := ⟨1, 20160, 20160, 20160, 20160⟩
theorem brkZ {l : List Sp} (h1 : ovlP 0 l = false) (h2 : ∀ x ∈ shiftsP rlO l, x.e - x.b ≤ 20160 ∧ x.w ≤ 20160) (h3 : ∀ s ∈ l, winP rlO l s.e ≤ 20160) : brokP rlO l = 0 := by
  unfold brokP
  rw [if_neg (by simp [h1]), if_neg, if_neg, if_neg]
  · simp only [List.any_eq_true, decide_eq_true_eq, not_exists, not_and, Int.not_lt]; exact h3
  · simp only [List.any_eq_true, decide_eq_true_eq, not_exists, not_and, Int.not_lt]; exact fun x hx => (h2 x hx).2
  · simp only [List.any_eq_true, decide_eq_true_eq, not_exists, not_and, Int.not_lt]; exact fun x hx => (h2 x hx).1
theorem brk1 {x : Sp} (hx : OkSp x) : brokP rlO [x] = 0 := by
  unfold OkSp at hx
  refine brkZ (by simp [ovlP]; omega) (fun y hy => ?_) (fun s hs => ?_)
  · have : y = ⟨x.b, x.e, x.e - x.b⟩ := by simpa [shiftsP, shGo] using hy
    rw [this]; dsimp only; omega
  · rw [List.mem_singleton.1 hs]
    show max 0 (min x.e x.e - max x.b (x.e - 20160)) + 0 ≤ 20160
    omega
theorem brk2 {x y : Sp} (hx : OkSp x) (hy : OkSp y) (h : ¬ LtS y x) : brokP rlO [x, y] = if y.b < x.e then 1 else 0 := by
  unfold OkSp at hx hy; unfold LtS at h
  by_cases c : y.b < x.e
  · rw [if_pos c]
    unfold brokP
    rw [if_pos]
    simp [ovlP]; omega
  · rw [if_neg c]
    refine brkZ (by simp [ovlP]; omega) (fun s hs => ?_) (fun s hs => ?_)
    · have hs2 : s ∈ shGo rlO ⟨x.b, x.e, x.e - x.b⟩ [y] := hs
      rw [shGo] at hs2
      split at hs2
      · have : s = ⟨x.b, max x.e y.e, x.e - x.b + (y.e - y.b)⟩ := by simpa [shGo] using hs2
        rw [this]; dsimp only; omega
      · have : s = ⟨x.b, x.e, x.e - x.b⟩ ∨ s = ⟨y.b, y.e, y.e - y.b⟩ := by simpa [shGo] using hs2
        rcases this with e | e <;> rw [e] <;> dsimp only <;> omega
    · have : s = x ∨ s = y := by simpa using hs
      rcases this with e | e <;> rw [e]
      · show max 0 (min x.e x.e - max x.b (x.e - 20160)) + (max 0 (min y.e x.e - max y.b (x.e - 20160)) + 0) ≤ 20160
        omega
      · show max 0 (min x.e y.e - max x.b (y.e - 20160)) + (max 0 (min y.e y.e - max y.b (y.e - 20160)) + 0) ≤ 20160
        omega
theorem brk_ab {a b : Dty} (ha : okDty a = true) (hb : okDty b = true) : brokP rlO (srtS [lngS a, lngS b]) = if b.bl < a.eh ∧ a.bl < b.eh then 1 else 0 := by
  have h1 := ok_of ha; have h2 := ok_of hb
  have e : srtS [lngS a, lngS b] = if LtS (lngS b) (lngS a) then [lngS b, lngS a] else [lngS a, lngS b] := by
    show insS (lngS a) [lngS b] = _
    unfold insS
    split <;> rfl
  rw [e]
  split
  · rename_i c
    rw [brk2 (lng_ok hb) (lng_ok ha) (by unfold LtS at c ⊢; omega)]
    have c9 : b.bl < a.bl ∨ (b.bl = a.bl ∧ b.eh < a.eh) := c
    by_cases q : (lngS a).b < (lngS b).e
    · have q9 : a.bl < b.eh := q
      rw [if_pos q, if_pos (by omega)]
    · have q9 : ¬ a.bl < b.eh := q
      rw [if_neg q, if_neg (by omega)]
  · rename_i c
    rw [brk2 (lng_ok ha) (lng_ok hb) c]
    have c9 : ¬ (b.bl < a.bl ∨ (b.bl = a.bl ∧ b.eh < a.eh)) := c
    by_cases q : (lngS b).b < (lngS a).e
    · have q9 : b.bl < a.eh := q
      rw [if_pos q, if_pos (by omega)]
    · have q9 : ¬ b.bl < a.eh := q
      rw [if_neg q, if_neg (by omega)]
theorem restO {a b : Dty} {at_ rule e : Int} {pos : Bool} (h : RestA rlO [a, b] at_ rule pos e) :
    (e = 2 ∧ at_ = 0 ∧ rule = 0 ∧ pos = false) ∨ (e = 0 ∧ okDty a = true ∧ okDty b = true ∧ ((at_ = 1 ∧ rule = 1 ∧ b.bl < a.eh ∧ a.bl < b.eh) ∨ (at_ = -1 ∧ rule = 0 ∧ ¬ (b.bl < a.eh ∧ a.bl < b.eh)))) := by
  have hc : chkRD rlO [a, b] = if ([a, b].any fun d => !okDty d) = true then 2 else 0 := by
    unfold chkRD
    rw [if_neg (by decide)]
    unfold chkD
    rw [if_neg (by show ¬ 20 < 2; decide)]
  rcases h with ⟨h1, h2, h3, h4, h5⟩ | ⟨h1, h2, h3, _⟩
  · left
    refine ⟨?_, h3, h4, h5⟩
    rw [hc] at h1 h2
    split at h1
    · rename_i c; rw [if_pos c] at h2; exact h2
    · exact absurd rfl h1
  · right
    have hok : okDty a = true ∧ okDty b = true := by
      rw [hc] at h1
      split at h1
      · cases h1
      · rename_i c
        cases qa : okDty a <;> cases qb : okDty b <;> simp [qa, qb] at c <;> exact ⟨rfl, rfl⟩
    obtain ⟨ha, hb⟩ := hok
    refine ⟨h2, ha, hb, ?_⟩
    have b1 : brkK rlO [a, b] 1 = 0 := brk1 (lng_ok ha)
    have b2 : brkK rlO [a, b] 2 = if b.bl < a.eh ∧ a.bl < b.eh then 1 else 0 := brk_ab ha hb
    rcases h3 with ⟨q1, q2, q3⟩ | ⟨k, hk, q1, q2, q3, q4⟩
    · right
      refine ⟨q1, q2, fun c => ?_⟩
      have := q3 1 (show 1 < 2 by decide)
      rw [b2, if_pos c] at this; cases this
    · left
      have hk2 : k = 1 := by
        have hk3 : k < 2 := hk
        cases k with
        | zero => rw [b1] at q2; exact absurd q2 q3
        | succ k => omega
      subst hk2
      rw [b2] at q2
      split at q2
      · rename_i c; exact ⟨q1, q2, c⟩
      · exact absurd q2 q3

end Go.Proofs.YtbcedieodibehaaGreat
