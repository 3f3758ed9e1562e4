/-
  Part 16 of the proof: contracts and plain laws. Conditions: none.
-/
import Derived.Lib.AtoiTie
import Derived.Lib.AtoiOr
import Derived.Lib.ItoaMem
import Derived.Lib.SplitLaws
import Derived.Lib.IndexBytes
import Derived.Shelf.Strings.SplitCore
import Derived.Shelf.Strings.Search3
import Derived.Shelf.Strings.Count
import Derived.Shelf.Strings.Prefix
import Derived.Shelf.Strconv.AtoiAll
import Derived.Ground.NamesProg
import Derived.Test.YtjdcpnaocjddoaaGreatDoorProg
import Derived.Test.YtjdcpnaocjddoaaGreatDoorJK15
namespace Go.Proofs.YtjdcpnaocjddoaaGreatDoor
open Go Go.RowKit
/-! ### pieces, joined again -/
theorem nth_apL {α : Type} [Inhabited α] {a b : List α} {i : Nat} (h : i < a.length) : nth (a ++ b) i = nth a i := by unfold nth; rw [List.getD_eq_getElem?_getD, List.getElem?_append_left h, List.getD_eq_getElem?_getD]
theorem nth_ap0 {α : Type} [Inhabited α] {a b : List α} : nth (a ++ b) a.length = nth b 0 := by unfold nth; rw [List.getD_eq_getElem?_getD, List.getElem?_append_right (Nat.le_refl _), List.getD_eq_getElem?_getD, Nat.sub_self]
theorem join_two (x y : List UInt8) (r : List (List UInt8)) (sep : List UInt8) : Lib.join (x :: y :: r) sep = x ++ sep ++ Lib.join (y :: r) sep := by
  rw [Lib.join_cons, Lib.join_cons]; simp [Lib.joinTail]
theorem join_snoc (sep : List UInt8) : ∀ (ws : List (List UInt8)) (w : List UInt8), ws ≠ [] → Lib.join (ws ++ [w]) sep = Lib.join ws sep ++ sep ++ w
  | [], _, h => absurd rfl h
  | [x], w, _ => by
    show Lib.join [x, w] sep = _
    rw [join_two, Lib.join_one, Lib.join_one]
  | x :: y :: r, w, _ => by
    show Lib.join (x :: y :: (r ++ [w])) sep = _
    have ih := join_snoc sep (y :: r) w (by simp)
    rw [join_two, join_two, show y :: (r ++ [w]) = (y :: r) ++ [w] from rfl, ih]
    simp only [List.append_assoc]
theorem pcs_join (c : UInt8) : ∀ (ws : List (List UInt8)), ws ≠ [] → (∀ w ∈ ws, c ∉ w) → pcs c (Lib.join ws [c]) = ws
  | [], h, _ => absurd rfl h
  | [x], _, h => by
    rw [Lib.join_one]
    exact pcs_one c x fun k hk e => h x (List.mem_cons_self ..) (e ▸ nth_mem hk)
  | x :: y :: r, _, h => by
    rw [join_two]
    have ih := pcs_join c (y :: r) (by simp) fun w hw => h w (List.mem_cons_of_mem _ hw)
    rw [pcs_cut c x.length (x ++ [c] ++ Lib.join (y :: r) [c]) (by simp) (fun k hk e => h x (List.mem_cons_self ..) (by
      have e9 : nth (x ++ [c] ++ Lib.join (y :: r) [c]) k = nth x k := by rw [List.append_assoc]; exact nth_apL hk
      rw [e9] at e; exact e ▸ nth_mem hk)) (by rw [List.append_assoc, nth_ap0]; rfl)]
    rw [List.append_assoc, List.take_left', show x.length + 1 = (x ++ [c]).length by simp, ← List.append_assoc, List.drop_left', ih]
    · rfl
    · rfl
theorem join_pcs (c : UInt8) : ∀ (s : List UInt8), Lib.join (pcs c s) [c] = s
  | [] => rfl
  | x :: r => by
    have ih := join_pcs c r
    have hne := pcs_ne c r
    unfold pcs
    cases hp : pcs c r with
    | nil => exact absurd hp hne
    | cons y t =>
      rw [hp] at ih
      split
      · rename_i e
        rw [join_two, ih, e]; rfl
      · show Lib.join ((x :: y) :: t) [c] = _
        rw [Lib.join_cons] at ih ⊢
        rw [← ih]; rfl
theorem pcs_free (c : UInt8) : ∀ (s : List UInt8), ∀ w ∈ pcs c s, c ∉ w
  | [], w, hw => by
    rw [List.mem_singleton.1 (show w ∈ [[]] from hw)]; exact List.not_mem_nil
  | x :: r, w, hw => by
    have ih := pcs_free c r
    have hne := pcs_ne c r
    unfold pcs at hw
    cases hp : pcs c r with
    | nil => exact absurd hp hne
    | cons y t =>
      rw [hp] at ih
      split at hw
      · rcases List.mem_cons.1 hw with rfl | hw
        · exact List.not_mem_nil
        · rw [hp] at hw; exact ih w hw
      · rename_i e
        rw [hp] at hw
        rcases List.mem_cons.1 hw with rfl | hw
        · intro h
          rcases List.mem_cons.1 h with h | h
          · exact e h.symm
          · exact ih y (List.mem_cons_self ..) h
        · exact ih w (List.mem_cons_of_mem _ hw)
/-- text that ends with a letter: its pieces ahead of the last one, and the last one -/
theorem pcs_last (c : UInt8) (s : List UInt8) : ∃ ws w, pcs c s = ws ++ [w] ∧ c ∉ w ∧ (pcs c s).dropLast = ws ∧ (ws ≠ [] → s = Lib.join ws [c] ++ [c] ++ w) ∧ (ws = [] → s = w) := by
  have hne := pcs_ne c s
  have e := List.dropLast_concat_getLast hne
  refine ⟨(pcs c s).dropLast, (pcs c s).getLast hne, e.symm, pcs_free c s _ (List.getLast_mem hne), rfl, fun h => ?_, fun h => ?_⟩
  · have h9 := join_pcs c s
    rw [← e, join_snoc _ _ _ h] at h9
    exact h9.symm
  · have h9 := join_pcs c s
    rw [← e, h, List.nil_append, Lib.join_one] at h9
    exact h9.symm
theorem weighP_l (l : List UInt8) : (97 ≤ (97 + weighP l 673 / 26).toNat ∧ (97 + weighP l 673 / 26).toNat ≤ 122) ∧ (97 ≤ (97 + weighP l 673 % 26).toNat ∧ (97 + weighP l 673 % 26).toNat ≤ 122) := by
  have := weighP_r l
  omega
theorem letter_ne {n : Nat} (h : 97 ≤ n ∧ n ≤ 122) : UInt8.ofNat n ≠ 32 := fun e => by
  have h1 := congrArg UInt8.toNat e
  rw [UInt8.toNat_ofNat', Nat.mod_eq_of_lt (by omega)] at h1
  have h2 : (32 : UInt8).toNat = 32 := rfl
  omega
/-- a sealed text, without its line feed -/
theorem sealP_cut {t s : List UInt8} (h : sealP t = s ++ [10]) : ∃ a b : UInt8, a ≠ 32 ∧ b ≠ 32 ∧ s = t ++ [a, b] := by
  have hw := weighP_l t
  unfold sealP at h
  refine ⟨_, _, letter_ne hw.1, letter_ne hw.2, ?_⟩
  have h1 := (List.append_inj' h rfl).1
  rw [← h1]; simp
/-- both ways to check the letters of a line agree -/
theorem seal_same {s : List UInt8} (h3 : 3 ≤ s.length) (h32 : nth s (s.length - 3) = 32) : sealedP (pcs 32 s).dropLast = s ++ [10] ↔ sealP (s.take (s.length - 3) ++ [32]) = s ++ [10] := by
  have key : ∀ (t : List UInt8) (a b : UInt8), s = t ++ [a, b] → t.length = s.length - 2 := fun t a b e => by rw [e]; simp
  have hs3 : s.take (s.length - 2) = s.take (s.length - 3) ++ [32] := by
    rw [show s.length - 2 = (s.length - 3) + 1 by omega, take_nth (by omega), h32]
  obtain ⟨ws, w, e1, e2, e3, e4, e5⟩ := pcs_last 32 s
  constructor
  · intro h
    unfold sealedP at h
    obtain ⟨a, b, ha, hb, hs⟩ := sealP_cut h
    have e9 : Lib.join (pcs 32 s).dropLast [32] ++ [32] = s.take (s.length - 3) ++ [32] := by
      have hk := key _ a b hs
      generalize Lib.join (pcs 32 s).dropLast [32] ++ [32] = t at hs hk ⊢
      rw [← hs3, ← hk, hs, List.take_left' rfl]
    rw [← e9]; exact h
  · intro h
    obtain ⟨a, b, ha, hb, hs⟩ := sealP_cut h
    have hn : pcs 32 s = pcs 32 (s.take (s.length - 3)) ++ [[a, b]] := by
      have hj : s = Lib.join (pcs 32 (s.take (s.length - 3)) ++ [[a, b]]) [32] := by
        rw [join_snoc _ _ _ (pcs_ne _ _), join_pcs]; exact hs
      conv => lhs; rw [hj]
      refine pcs_join 32 _ (by simp) fun x hx => ?_
      rcases List.mem_append.1 hx with hx | hx
      · exact pcs_free 32 _ x hx
      · rw [List.mem_singleton.1 hx]
        intro h9
        rcases List.mem_cons.1 h9 with h9 | h9
        · exact ha h9.symm
        · exact hb (List.mem_singleton.1 h9).symm
    unfold sealedP
    rw [hn, List.dropLast_concat, join_pcs]; exact h
/-! ### digits -/
theorem isDg_iff {c : UInt8} : isDg c = true ↔ 48 ≤ c.toNat ∧ c.toNat ≤ 57 := by
  unfold isDg; rw [decide_eq_true_eq]; omega
theorem dgt_of {n : Nat} (h : n < 10) : (UInt8.ofNat (48 + n)).toNat = 48 + n := by
  rw [UInt8.toNat_ofNat', Nat.mod_eq_of_lt (by omega)]
theorem decD_small {n : Nat} (h : n < 10) : Lib.decDigits n = [UInt8.ofNat (48 + n)] := by rw [Lib.decDigits, dif_pos h]
theorem decD_big {n : Nat} (h : ¬ n < 10) : Lib.decDigits n = Lib.decDigits (n / 10) ++ [UInt8.ofNat (48 + n % 10)] := by rw [Lib.decDigits, dif_neg h]
theorem decD_dg (n : Nat) : ∀ c ∈ Lib.decDigits n, isDg c = true := by
  induction n using Nat.strongRecOn with
  | ind n ih =>
    intro c hc
    by_cases h : n < 10
    · rw [decD_small h] at hc
      rw [List.mem_singleton.1 hc, isDg_iff, dgt_of h]; omega
    · rw [decD_big h] at hc
      rcases List.mem_append.1 hc with hc | hc
      · exact ih (n / 10) (by omega) c hc
      · rw [List.mem_singleton.1 hc, isDg_iff, dgt_of (Nat.mod_lt _ (by decide))]; omega
theorem decD_free {n : Nat} {c : UInt8} (h : isDg c = false) : c ∉ Lib.decDigits n := fun hc => by rw [decD_dg n c hc] at h; cases h
theorem decD_len : ∀ (k n : Nat), n < 10 ^ (k + 1) → (Lib.decDigits n).length ≤ k + 1
  | 0, n, h => by
    rw [decD_small (by omega)]; exact Nat.le_refl _
  | k + 1, n, h => by
    by_cases q : n < 10
    · rw [decD_small q]; simp
    · rw [decD_big q, List.length_append]
      have := decD_len k (n / 10) (by rw [Nat.pow_succ] at h; omega)
      simp only [List.length_cons, List.length_nil]; omega
theorem decD_pos (n : Nat) : 0 < (Lib.decDigits n).length := by
  by_cases q : n < 10
  · rw [decD_small q]; exact Nat.one_pos
  · rw [decD_big q, List.length_append]; simp
/-- the program's number of a text -/
def numP (s : List UInt8) : Int := Lib.atoiOr s (-1)
theorem itoa_dec {n : Int} (h : 0 ≤ n) : Lib.itoa n = Lib.decDigits n.toNat := by
  have h1 := Lib.itoa_nonneg n.toNat
  rw [Int.toNat_of_nonneg h] at h1; exact h1
/-! ### bills, read -/
def Bil.bare (x : Bil) : Bil := ⟨x.n, x.c, x.t, x.f, x.o, x.s, none, 0, 0, 0⟩
def bil0 : Bil := ⟨0, 0, 0, 0, 0, [], none, 0, 0, 0⟩
def cutL (c : UInt8) (s : List UInt8) : List UInt8 := (pcs c s).headD []
def cutR (c : UInt8) (s : List UInt8) : List UInt8 := s.drop ((cutL c s).length + 1)
/-- what the program's reader makes of words -/
def parB (ws : List (List UInt8)) : Bil :=
  if ws.length ≠ 5 then bil0 else ⟨numP (nth ws 0), numP (nth ws 1), numP (nth ws 2), numP (cutL 62 (nth ws 3)), numP (cutR 62 (nth ws 3)), if nth ws 4 = [45] then [] else (pcs 44 (nth ws 4)).map numP, none, 0, 0, 0⟩
def parL (s : List UInt8) : Bil := parB (pcs 32 s).dropLast
/-- a line, read by a parser -/
def lineB (p : List UInt8 → Bil) (s : List UInt8) : Bil × Int := if chkdP s ≠ 0 then (bil0, chkdP s) else if okBill (p s) = true ∧ billP (p s) = s ++ [10] then (p s, 0) else (bil0, 4)
def goB (L : List UInt8 → Bil × Int) : List Bil → List (List UInt8) → List Bil × Int × Int
  | acc, [] => (acc, 0, 0)
  | acc, s :: r => if (L s).2 ≠ 0 then ([], acc.length, (L s).2) else if 0 < acc.length ∧ ¬ (nth acc (acc.length - 1)).n < (L s).1.n then ([], acc.length, 6) else goB L (acc ++ [(L s).1]) r
def readB (L : List UInt8 → Bil × Int) (s : List UInt8) : List Bil × Int × Int := if (linesR s).2 ≠ 0 then ([], 0, (linesR s).2) else goB L [] (linesR s).1
theorem goB_bad {L : List UInt8 → Bil × Int} {acc : List Bil} {s : List UInt8} {r : List (List UInt8)} (h : (L s).2 ≠ 0) : goB L acc (s :: r) = ([], (acc.length : Int), (L s).2) := by
  show (if _ then _ else _) = _
  rw [if_pos h]
theorem goB_twice {L : List UInt8 → Bil × Int} {acc : List Bil} {s : List UInt8} {r : List (List UInt8)} (h : (L s).2 = 0) (h2 : 0 < acc.length ∧ ¬ (nth acc (acc.length - 1)).n < (L s).1.n) : goB L acc (s :: r) = ([], (acc.length : Int), 6) := by
  show (if _ then _ else _) = _
  rw [if_neg (by rw [h]; decide), if_pos h2]
theorem goB_next {L : List UInt8 → Bil × Int} {acc : List Bil} {s : List UInt8} {r : List (List UInt8)} (h : (L s).2 = 0) (h2 : ¬ (0 < acc.length ∧ ¬ (nth acc (acc.length - 1)).n < (L s).1.n)) : goB L acc (s :: r) = goB L (acc ++ [(L s).1]) r := by
  conv => lhs; unfold goB
  rw [if_neg (by rw [h]; decide), if_neg h2]
/-! ### the text of a valid bill is parsed as this bill -/
theorem sealG_rng : ∀ {l : List Int} {m : Int}, 0 ≤ m → sealG m l = true → ∀ n ∈ l, 0 ≤ n ∧ n < 1000000 := fun hm h n hn => by
  have := sealG_mem hm h n hn
  omega
/-- the words of a bill -/
def wrdB (x : Bil) : List (List UInt8) := [Lib.itoa x.n, Lib.itoa x.c, Lib.itoa x.t, Lib.itoa x.f ++ [62] ++ Lib.itoa x.o, Lib.join (sealsP x.s) [44]]
theorem wrd_free {x : Bil} (h : okBill x = true) : ∀ w ∈ wrdB x, (32 : UInt8) ∉ w := by
  obtain ⟨h1, h2, h3, h4, ⟨h5, h6⟩, _, _⟩ := okBill_iff h
  have hs := sealG_rng (by decide) h1
  have hd : ∀ n : Int, 0 ≤ n → (32 : UInt8) ∉ Lib.itoa n := fun n hn => by rw [itoa_dec hn]; exact decD_free (by decide)
  intro w hw
  unfold wrdB at hw
  rcases List.mem_cons.1 hw with rfl | hw
  · exact hd _ (by omega)
  rcases List.mem_cons.1 hw with rfl | hw
  · exact hd _ (by omega)
  rcases List.mem_cons.1 hw with rfl | hw
  · exact hd _ (by omega)
  rcases List.mem_cons.1 hw with rfl | hw
  · intro h9
    rcases List.mem_append.1 h9 with h9 | h9
    · rcases List.mem_append.1 h9 with h9 | h9
      · exact hd _ (by omega) h9
      · revert h9; decide
    · exact hd _ (by omega) h9
  · rw [List.mem_singleton.1 hw]
    clear hw
    have hj : ∀ l : List (List UInt8), (∀ w ∈ l, (32 : UInt8) ∉ w) → (32 : UInt8) ∉ Lib.join l [44] := fun l => by
      induction l with
      | nil => intro _ h9; cases h9
      | cons y l ih =>
        intro hy
        cases l with
        | nil => rw [Lib.join_one]; exact hy y (List.mem_cons_self ..)
        | cons z l =>
          rw [join_two]
          intro h9
          rcases List.mem_append.1 h9 with h9 | h9
          · rcases List.mem_append.1 h9 with h9 | h9
            · exact hy y (List.mem_cons_self ..) h9
            · revert h9; decide
          · exact ih (fun w hw => hy w (List.mem_cons_of_mem _ hw)) h9
    refine hj _ fun w hw => ?_
    unfold sealsP at hw
    split at hw
    · rw [List.mem_singleton.1 hw]; decide
    · obtain ⟨n, hn, rfl⟩ := List.mem_map.1 hw
      exact hd n (hs n hn).1
theorem idx_spec (c : UInt8) : ∀ l : List UInt8, (Lib.indexByte l c = -1 ∧ ∀ k, k < l.length → nth l k ≠ c) ∨ ∃ i : Nat, Lib.indexByte l c = i ∧ i < l.length ∧ nth l i = c ∧ ∀ k, k < i → nth l k ≠ c
  | [] => .inl ⟨rfl, fun k h => absurd h (Nat.not_lt_zero _)⟩
  | b :: l => by
    unfold Lib.indexByte
    by_cases h : b = c
    · rw [if_pos (beq_iff_eq.2 h)]
      exact .inr ⟨0, rfl, Nat.succ_pos _, h, fun k hk => absurd hk (Nat.not_lt_zero _)⟩
    · rw [if_neg (fun e => h (beq_iff_eq.1 e))]
      rcases idx_spec c l with ⟨h1, h2⟩ | ⟨i, h1, h2, h3, h4⟩
      · rw [h1, if_pos (by decide)]
        refine .inl ⟨rfl, fun k hk => ?_⟩
        cases k with
        | zero => exact h
        | succ k => exact h2 k (by simpa using hk)
      · rw [h1, if_neg (fun e => by have := beq_iff_eq.1 e; omega)]
        refine .inr ⟨i + 1, by omega, Nat.succ_lt_succ h2, h3, fun k hk => ?_⟩
        cases k with
        | zero => exact h
        | succ k => exact h4 k (by omega)
/-- one step along the pieces: no c at all -/
theorem pcs_miss {c : UInt8} {l : List UInt8} (h : Lib.indexByte l c < 0) : pcs c l = [l] := by
  rcases idx_spec c l with ⟨_, h2⟩ | ⟨i, h1, _⟩
  · exact pcs_one c l h2
  · omega
/-- one step along the pieces: the first one ends at i -/
theorem pcs_hit {c : UInt8} {l : List UInt8} {i : Nat} (h : Lib.indexByte l c = i) : i < l.length ∧ nth l i = c ∧ pcs c l = l.take i :: pcs c (l.drop (i + 1)) := by
  rcases idx_spec c l with ⟨h1, _⟩ | ⟨j, h1, h2, h3, h4⟩
  · omega
  · have e : i = j := by omega
    subst e
    exact ⟨h2, h3, pcs_cut c i l h2 h4 h3⟩
theorem pcs_count (c : UInt8) : ∀ l : List UInt8, (pcs c l).length = l.count c + 1
  | [] => rfl
  | b :: l => by
    have ih := pcs_count c l
    unfold pcs
    by_cases h : b = c
    · rw [if_pos h, List.length_cons, ih, h, List.count_cons_self]
    · rw [if_neg h, List.length_cons, List.length_tail, ih, List.count_cons_of_ne h]; rfl
theorem linesP_count (s : List UInt8) : (linesP s).length = s.count 10 := by
  unfold linesP
  rw [List.length_dropLast, pcs_count, Nat.add_sub_cancel]
theorem splitK_pcs (c : UInt8) : ∀ (k : Nat) (s : List UInt8), s.count c = k → Lib.splitK [c] 0 k s = pcs c s
  | 0, s, h => by
    have h1 : ∀ j, j < s.length → nth s j ≠ c := fun j hj e => by
      have h2 := List.count_pos_iff.2 (e ▸ nth_mem hj : c ∈ s)
      omega
    rw [pcs_one c s h1]; rfl
  | k + 1, s, h => by
    have hm : c ∈ s := List.count_pos_iff.1 (by omega)
    unfold Lib.splitK
    rw [Lib.index_one]
    rcases idx_spec c s with ⟨h1, h2⟩ | ⟨i, h1, h2, h3, h4⟩
    · obtain ⟨j, hj, e⟩ := List.mem_iff_getElem.1 hm
      exact absurd (by rw [nth_eq hj]; exact e) (h2 j hj)
    · have hc : (s.drop (i + 1)).count c = k := by
        have e := pcs_count c s
        rw [(pcs_hit h1).2.2, List.length_cons, pcs_count] at e
        omega
      rw [h1, if_neg (fun e => by have := beq_iff_eq.1 e; omega), (pcs_hit h1).2.2, ← splitK_pcs c k _ hc]
      rfl

end Go.Proofs.YtjdcpnaocjddoaaGreatDoor
namespace Go.Proofs.YtjdcpnaocjddoaaGreatDoor
open Go Go.RowKit Go.Proofs.Tryz
end Go.Proofs.YtjdcpnaocjddoaaGreatDoor
namespace Go.Proofs.YtjdcpnaocjddoaaGreatDoor
open Go Go.RowKit Go.Proofs.Tryz
end Go.Proofs.YtjdcpnaocjddoaaGreatDoor
namespace Go.Proofs.YtjdcpnaocjddoaaGreatDoor
open Go Go.RowKit Go.Proofs.Tryz
end Go.Proofs.YtjdcpnaocjddoaaGreatDoor
namespace Go.Proofs
open Go.Shelf
def YtjdcpnaocjddoaaGreatDoor.layCount_ren : Go.Shelf.Ren := ⟨fun | 138 => 122 | 195 => 152 | 218 => 153 | 143 => 154 | 219 => 169 | 217 => 173 | 225 => 185 | 224 => 186 | 267 => 187 | 266 => 189 | 314 => 201 | n => n, fun | 9 => 9 | 3 => 3 | 4 => 4 | 5 => 5 | 0 => 0 | 46 => 120 | 146 => 254 | 51 => 97 | n => n, fun | 1 => 0 | n => n⟩
theorem YtjdcpnaocjddoaaGreatDoor.layCount : Go.Proofs.Lays.n138 Tryz.prog YtjdcpnaocjddoaaGreatDoor.layCount_ren := {
  mixed := by kernel_rfl
  f138 := Tryz.func122.trans (congrArg some (by kernel_rfl))
  f143 := Tryz.func154.trans (congrArg some (by kernel_rfl))
  f195 := Tryz.func152.trans (congrArg some (by kernel_rfl))
  f217 := Tryz.func173.trans (congrArg some (by kernel_rfl))
  f218 := Tryz.func153.trans (congrArg some (by kernel_rfl))
  f219 := Tryz.func169.trans (congrArg some (by kernel_rfl))
  f224 := Tryz.func186.trans (congrArg some (by kernel_rfl))
  f225 := Tryz.func185.trans (congrArg some (by kernel_rfl))
  f266 := Tryz.func189.trans (congrArg some (by kernel_rfl))
  f267 := Tryz.func187.trans (congrArg some (by kernel_rfl))
  f314 := Tryz.func201.trans (congrArg some (by kernel_rfl))
  t0 := Tryz.underlying0
  a0 := Tryz.isAgg0
  z0 := Tryz.sizeOf0
  v0 := Tryz.zeroValue0
  t3 := Tryz.underlying3
  a3 := Tryz.isAgg3
  z3 := Tryz.sizeOf3
  v3 := Tryz.zeroValue3
  t4 := Tryz.underlying4
  a4 := Tryz.isAgg4
  z4 := Tryz.sizeOf4
  v4 := Tryz.zeroValue4
  t5 := Tryz.underlying5
  a5 := Tryz.isAgg5
  z5 := Tryz.sizeOf5
  v5 := Tryz.zeroValue5
  t9 := Tryz.underlying9
  a9 := Tryz.isAgg9
  z9 := Tryz.sizeOf9
  v9 := Tryz.zeroValue9
  t46 := Tryz.underlying120
  a46 := Tryz.isAgg120
  z46 := Tryz.sizeOf120
  v46 := Tryz.zeroValue120
  t51 := Tryz.underlying97
  a51 := Tryz.isAgg97
  z51 := Tryz.sizeOf97
  v51 := Tryz.zeroValue97
  t146 := Tryz.underlying254
  a146 := Tryz.isAgg254
  z146 := Tryz.sizeOf254
  v146 := Tryz.zeroValue254
  g1 := by kernel_rfl }
def YtjdcpnaocjddoaaGreatDoor.layIndex_ren : Go.Shelf.Ren := ⟨fun | 143 => 154 | 219 => 169 | 217 => 173 | 225 => 185 | 224 => 186 | 267 => 187 | 266 => 189 | 314 => 201 | n => n, fun | 9 => 9 | 3 => 3 | 4 => 4 | 5 => 5 | 46 => 120 | 146 => 254 | 51 => 97 | n => n, fun | 1 => 0 | n => n⟩
theorem YtjdcpnaocjddoaaGreatDoor.layIndex : Go.Proofs.Lays.n143 Tryz.prog YtjdcpnaocjddoaaGreatDoor.layIndex_ren := {
  mixed := by kernel_rfl
  f143 := Tryz.func154.trans (congrArg some (by kernel_rfl))
  f217 := Tryz.func173.trans (congrArg some (by kernel_rfl))
  f219 := Tryz.func169.trans (congrArg some (by kernel_rfl))
  f224 := Tryz.func186.trans (congrArg some (by kernel_rfl))
  f225 := Tryz.func185.trans (congrArg some (by kernel_rfl))
  f266 := Tryz.func189.trans (congrArg some (by kernel_rfl))
  f267 := Tryz.func187.trans (congrArg some (by kernel_rfl))
  f314 := Tryz.func201.trans (congrArg some (by kernel_rfl))
  t3 := Tryz.underlying3
  a3 := Tryz.isAgg3
  z3 := Tryz.sizeOf3
  v3 := Tryz.zeroValue3
  t4 := Tryz.underlying4
  a4 := Tryz.isAgg4
  z4 := Tryz.sizeOf4
  v4 := Tryz.zeroValue4
  t5 := Tryz.underlying5
  a5 := Tryz.isAgg5
  z5 := Tryz.sizeOf5
  v5 := Tryz.zeroValue5
  t9 := Tryz.underlying9
  a9 := Tryz.isAgg9
  z9 := Tryz.sizeOf9
  v9 := Tryz.zeroValue9
  t46 := Tryz.underlying120
  a46 := Tryz.isAgg120
  z46 := Tryz.sizeOf120
  v46 := Tryz.zeroValue120
  t51 := Tryz.underlying97
  a51 := Tryz.isAgg97
  z51 := Tryz.sizeOf97
  v51 := Tryz.zeroValue97
  t146 := Tryz.underlying254
  a146 := Tryz.isAgg254
  z146 := Tryz.sizeOf254
  v146 := Tryz.zeroValue254
  g1 := by kernel_rfl }
def YtjdcpnaocjddoaaGreatDoor.layGen_ren : Go.Shelf.Ren := ⟨fun | 221 => 174 | 268 => 190 | 138 => 122 | 143 => 154 | 195 => 152 | 197 => 171 | 218 => 153 | 219 => 169 | 260 => 188 | 217 => 173 | 225 => 185 | 224 => 186 | 267 => 187 | 266 => 189 | 314 => 201 | n => n, fun | 9 => 9 | 3 => 3 | 31 => 105 | 4 => 4 | 0 => 0 | 105 => 228 | 21 => 21 | 5 => 5 | 46 => 120 | 119 => 256 | 139 => 259 | 138 => 258 | 146 => 254 | 51 => 97 | n => n, fun | 1 => 0 | 3 => 3 | 4 => 4 | n => n⟩
theorem YtjdcpnaocjddoaaGreatDoor.layGen : Go.Proofs.Lays.n221 Tryz.prog YtjdcpnaocjddoaaGreatDoor.layGen_ren := {
  mixed := by kernel_rfl
  f138 := Tryz.func122.trans (congrArg some (by kernel_rfl))
  f143 := Tryz.func154.trans (congrArg some (by kernel_rfl))
  f195 := Tryz.func152.trans (congrArg some (by kernel_rfl))
  f197 := Tryz.func171.trans (congrArg some (by kernel_rfl))
  f217 := Tryz.func173.trans (congrArg some (by kernel_rfl))
  f218 := Tryz.func153.trans (congrArg some (by kernel_rfl))
  f219 := Tryz.func169.trans (congrArg some (by kernel_rfl))
  f221 := Tryz.func174.trans (congrArg some (by kernel_rfl))
  f224 := Tryz.func186.trans (congrArg some (by kernel_rfl))
  f225 := Tryz.func185.trans (congrArg some (by kernel_rfl))
  f260 := Tryz.func188.trans (congrArg some (by kernel_rfl))
  f266 := Tryz.func189.trans (congrArg some (by kernel_rfl))
  f267 := Tryz.func187.trans (congrArg some (by kernel_rfl))
  f268 := Tryz.func190.trans (congrArg some (by kernel_rfl))
  f314 := Tryz.func201.trans (congrArg some (by kernel_rfl))
  t0 := Tryz.underlying0
  a0 := Tryz.isAgg0
  z0 := Tryz.sizeOf0
  v0 := Tryz.zeroValue0
  t3 := Tryz.underlying3
  a3 := Tryz.isAgg3
  z3 := Tryz.sizeOf3
  v3 := Tryz.zeroValue3
  t4 := Tryz.underlying4
  a4 := Tryz.isAgg4
  z4 := Tryz.sizeOf4
  v4 := Tryz.zeroValue4
  t5 := Tryz.underlying5
  a5 := Tryz.isAgg5
  z5 := Tryz.sizeOf5
  v5 := Tryz.zeroValue5
  t9 := Tryz.underlying9
  a9 := Tryz.isAgg9
  z9 := Tryz.sizeOf9
  v9 := Tryz.zeroValue9
  t21 := Tryz.underlying21
  a21 := Tryz.isAgg21
  z21 := Tryz.sizeOf21
  v21 := Tryz.zeroValue21
  t31 := Tryz.underlying105
  a31 := Tryz.isAgg105
  z31 := Tryz.sizeOf105
  v31 := Tryz.zeroValue105
  t46 := Tryz.underlying120
  a46 := Tryz.isAgg120
  z46 := Tryz.sizeOf120
  v46 := Tryz.zeroValue120
  t51 := Tryz.underlying97
  a51 := Tryz.isAgg97
  z51 := Tryz.sizeOf97
  v51 := Tryz.zeroValue97
  t105 := Tryz.underlying228
  a105 := Tryz.isAgg228
  z105 := Tryz.sizeOf228
  v105 := Tryz.zeroValue228
  t119 := Tryz.underlying256
  a119 := Tryz.isAgg256
  z119 := Tryz.sizeOf256
  t138 := Tryz.underlying258
  a138 := Tryz.isAgg258
  z138 := Tryz.sizeOf258
  v138 := Tryz.zeroValue258
  t139 := Tryz.underlying259
  a139 := Tryz.isAgg259
  z139 := Tryz.sizeOf259
  v139 := Tryz.zeroValue259
  t146 := Tryz.underlying254
  a146 := Tryz.isAgg254
  z146 := Tryz.sizeOf254
  v146 := Tryz.zeroValue254
  g1 := by kernel_rfl
  g3 := by kernel_rfl
  g4 := by kernel_rfl }
def YtjdcpnaocjddoaaGreatDoor.layHas_ren : Go.Shelf.Ren := ⟨fun | 100 => 121 | 207 => 151 | n => n, fun | 9 => 9 | 4 => 4 | 3 => 3 | n => n, fun | n => n⟩
theorem YtjdcpnaocjddoaaGreatDoor.layHas : Go.Proofs.Lays.n100 Tryz.prog YtjdcpnaocjddoaaGreatDoor.layHas_ren := {
  mixed := by kernel_rfl
  f100 := Tryz.func121.trans (congrArg some (by kernel_rfl))
  f207 := Tryz.func151.trans (congrArg some (by kernel_rfl))
  t3 := Tryz.underlying3
  a3 := Tryz.isAgg3
  z3 := Tryz.sizeOf3
  v3 := Tryz.zeroValue3
  t4 := Tryz.underlying4
  a4 := Tryz.isAgg4
  z4 := Tryz.sizeOf4
  v4 := Tryz.zeroValue4
  t9 := Tryz.underlying9
  a9 := Tryz.isAgg9
  z9 := Tryz.sizeOf9
  v9 := Tryz.zeroValue9 }
def YtjdcpnaocjddoaaGreatDoor.layTrim_ren : Go.Shelf.Ren := ⟨fun | 102 => 125 | 209 => 158 | 207 => 151 | n => n, fun | 9 => 9 | 4 => 4 | 3 => 3 | n => n, fun | n => n⟩
theorem YtjdcpnaocjddoaaGreatDoor.layTrim : Go.Proofs.Lays.n102 Tryz.prog YtjdcpnaocjddoaaGreatDoor.layTrim_ren := {
  mixed := by kernel_rfl
  f102 := Tryz.func125.trans (congrArg some (by kernel_rfl))
  f207 := Tryz.func151.trans (congrArg some (by kernel_rfl))
  f209 := Tryz.func158.trans (congrArg some (by kernel_rfl))
  t3 := Tryz.underlying3
  a3 := Tryz.isAgg3
  z3 := Tryz.sizeOf3
  v3 := Tryz.zeroValue3
  t4 := Tryz.underlying4
  a4 := Tryz.isAgg4
  z4 := Tryz.sizeOf4
  v4 := Tryz.zeroValue4
  t9 := Tryz.underlying9
  a9 := Tryz.isAgg9
  z9 := Tryz.sizeOf9
  v9 := Tryz.zeroValue9 }
def YtjdcpnaocjddoaaGreatDoor.layIxB_ren : Go.Shelf.Ren := ⟨fun | 217 => 173 | 266 => 189 | n => n, fun | 9 => 9 | 5 => 5 | 3 => 3 | n => n, fun | n => n⟩
theorem YtjdcpnaocjddoaaGreatDoor.layIxB : Go.Proofs.Lays.n217 Tryz.prog YtjdcpnaocjddoaaGreatDoor.layIxB_ren := {
  mixed := by kernel_rfl
  f217 := Tryz.func173.trans (congrArg some (by kernel_rfl))
  f266 := Tryz.func189.trans (congrArg some (by kernel_rfl))
  t3 := Tryz.underlying3
  a3 := Tryz.isAgg3
  z3 := Tryz.sizeOf3
  v3 := Tryz.zeroValue3
  t5 := Tryz.underlying5
  a5 := Tryz.isAgg5
  z5 := Tryz.sizeOf5
  v5 := Tryz.zeroValue5
  t9 := Tryz.underlying9
  a9 := Tryz.isAgg9
  z9 := Tryz.sizeOf9
  v9 := Tryz.zeroValue9 }
def YtjdcpnaocjddoaaGreatDoor.layAtoi_ren : Go.Shelf.Ren := ⟨fun | 172 => 132 | 244 => 159 | 245 => 160 | 247 => 175 | 279 => 176 | 280 => 177 | 281 => 178 | 282 => 179 | 287 => 191 | 316 => 192 | 171 => 145 | 205 => 193 | 321 => 202 | 322 => 203 | 243 => 167 | 246 => 183 | 283 => 196 | 284 => 197 | 285 => 198 | 286 => 199 | 129 => 143 | 317 => 205 | 318 => 206 | 319 => 207 | 320 => 208 | 337 => 209 | 338 => 210 | n => n, fun | 9 => 9 | 3 => 3 | 75 => 192 | 76 => 193 | 4 => 4 | 5 => 5 | 167 => 233 | 37 => 25 | 0 => 0 | 85 => 234 | 2 => 2 | 168 => 236 | 53 => 214 | 175 => 243 | 46 => 120 | 210 => 246 | 127 => 218 | 145 => 263 | 143 => 261 | 21 => 21 | 171 => 249 | 173 => 251 | 212 => 266 | 51 => 97 | 20 => 20 | 213 => 267 | 232 => 123 | 233 => 268 | 80 => 195 | n => n, fun | 15 => 1 | 16 => 2 | 17 => 5 | 18 => 6 | 19 => 7 | n => n⟩
theorem YtjdcpnaocjddoaaGreatDoor.layAtoi : Go.Proofs.LaysC.n172 Tryz.prog YtjdcpnaocjddoaaGreatDoor.layAtoi_ren := {
  mixed := by kernel_rfl
  f129 := Tryz.func143.trans (congrArg some (by kernel_rfl))
  f171 := Tryz.func145.trans (congrArg some (by kernel_rfl))
  f172 := Tryz.func132.trans (congrArg some (by kernel_rfl))
  f205 := Tryz.func193.trans (congrArg some (by kernel_rfl))
  f243 := Tryz.func167.trans (congrArg some (by kernel_rfl))
  f244 := Tryz.func159.trans (congrArg some (by kernel_rfl))
  f245 := Tryz.func160.trans (congrArg some (by kernel_rfl))
  f246 := Tryz.func183.trans (congrArg some (by kernel_rfl))
  f247 := Tryz.func175.trans (congrArg some (by kernel_rfl))
  f279 := Tryz.func176.trans (congrArg some (by kernel_rfl))
  f280 := Tryz.func177.trans (congrArg some (by kernel_rfl))
  f281 := Tryz.func178.trans (congrArg some (by kernel_rfl))
  f282 := Tryz.func179.trans (congrArg some (by kernel_rfl))
  f283 := Tryz.func196.trans (congrArg some (by kernel_rfl))
  f284 := Tryz.func197.trans (congrArg some (by kernel_rfl))
  f285 := Tryz.func198.trans (congrArg some (by kernel_rfl))
  f286 := Tryz.func199.trans (congrArg some (by kernel_rfl))
  f287 := Tryz.func191.trans (congrArg some (by kernel_rfl))
  f316 := Tryz.func192.trans (congrArg some (by kernel_rfl))
  f317 := Tryz.func205.trans (congrArg some (by kernel_rfl))
  f318 := Tryz.func206.trans (congrArg some (by kernel_rfl))
  f319 := Tryz.func207.trans (congrArg some (by kernel_rfl))
  f320 := Tryz.func208.trans (congrArg some (by kernel_rfl))
  f321 := Tryz.func202.trans (congrArg some (by kernel_rfl))
  f322 := Tryz.func203.trans (congrArg some (by kernel_rfl))
  f337 := Tryz.func209.trans (congrArg some (by kernel_rfl))
  f338 := Tryz.func210.trans (congrArg some (by kernel_rfl))
  t0 := Tryz.underlying0
  a0 := Tryz.isAgg0
  z0 := Tryz.sizeOf0
  v0 := Tryz.zeroValue0
  t2 := Tryz.underlying2
  a2 := Tryz.isAgg2
  z2 := Tryz.sizeOf2
  v2 := Tryz.zeroValue2
  t3 := Tryz.underlying3
  a3 := Tryz.isAgg3
  z3 := Tryz.sizeOf3
  v3 := Tryz.zeroValue3
  t4 := Tryz.underlying4
  a4 := Tryz.isAgg4
  z4 := Tryz.sizeOf4
  v4 := Tryz.zeroValue4
  t5 := Tryz.underlying5
  a5 := Tryz.isAgg5
  z5 := Tryz.sizeOf5
  v5 := Tryz.zeroValue5
  t9 := Tryz.underlying9
  a9 := Tryz.isAgg9
  z9 := Tryz.sizeOf9
  v9 := Tryz.zeroValue9
  t20 := Tryz.underlying20
  a20 := Tryz.isAgg20
  z20 := Tryz.sizeOf20
  v20 := Tryz.zeroValue20
  t21 := Tryz.underlying21
  a21 := Tryz.isAgg21
  z21 := Tryz.sizeOf21
  v21 := Tryz.zeroValue21
  t37 := Tryz.underlying25
  a37 := Tryz.isAgg25
  z37 := Tryz.sizeOf25
  v37 := Tryz.zeroValue25
  t46 := Tryz.underlying120
  a46 := Tryz.isAgg120
  z46 := Tryz.sizeOf120
  v46 := Tryz.zeroValue120
  t51 := Tryz.underlying97
  a51 := Tryz.isAgg97
  z51 := Tryz.sizeOf97
  v51 := Tryz.zeroValue97
  t53 := Tryz.underlying214
  a53 := Tryz.isAgg214
  z53 := Tryz.sizeOf214
  v53 := Tryz.zeroValue214
  t75 := Tryz.underlying192
  a75 := Tryz.isAgg192
  z75 := Tryz.sizeOf192
  v75 := Tryz.zeroValue192
  t76 := Tryz.underlying193
  a76 := Tryz.isAgg193
  z76 := Tryz.sizeOf193
  v76 := Tryz.zeroValue193
  t85 := Tryz.underlying234
  a85 := Tryz.isAgg234
  z85 := Tryz.sizeOf234
  v85 := Tryz.zeroValue234
  t127 := Tryz.underlying218
  a127 := Tryz.isAgg218
  z127 := Tryz.sizeOf218
  v127 := Tryz.zeroValue218
  t143 := Tryz.underlying261
  a143 := Tryz.isAgg261
  z143 := Tryz.sizeOf261
  v143 := Tryz.zeroValue261
  t145 := Tryz.underlying263
  a145 := Tryz.isAgg263
  z145 := Tryz.sizeOf263
  v145 := Tryz.zeroValue263
  t167 := Tryz.underlying233
  a167 := Tryz.isAgg233
  z167 := Tryz.sizeOf233
  v167 := Tryz.zeroValue233
  t168 := Tryz.underlying236
  a168 := Tryz.isAgg236
  z168 := Tryz.sizeOf236
  v168 := Tryz.zeroValue236
  t171 := Tryz.underlying249
  a171 := Tryz.isAgg249
  z171 := Tryz.sizeOf249
  v171 := Tryz.zeroValue249
  t173 := Tryz.underlying251
  a173 := Tryz.isAgg251
  z173 := Tryz.sizeOf251
  v173 := Tryz.zeroValue251
  t175 := Tryz.underlying243
  a175 := Tryz.isAgg243
  z175 := Tryz.sizeOf243
  v175 := Tryz.zeroValue243
  t210 := Tryz.underlying246
  a210 := Tryz.isAgg246
  z210 := Tryz.sizeOf246
  v210 := Tryz.zeroValue246
  t212 := Tryz.underlying266
  a212 := Tryz.isAgg266
  z212 := Tryz.sizeOf266
  v212 := Tryz.zeroValue266
  t213 := Tryz.underlying267
  a213 := Tryz.isAgg267
  z213 := Tryz.sizeOf267
  t232 := Tryz.underlying123
  a232 := Tryz.isAgg123
  z232 := Tryz.sizeOf123
  v232 := Tryz.zeroValue123
  t233 := Tryz.underlying268
  a233 := Tryz.isAgg268
  z233 := Tryz.sizeOf268
  v233 := Tryz.zeroValue268
  g15 := by kernel_rfl
  g16 := by kernel_rfl
  g17 := by kernel_rfl
  g18 := by kernel_rfl
  g19 := by kernel_rfl
  t80 := Tryz.underlying195
  a80 := Tryz.isAgg195
  z80 := Tryz.sizeOf195
  v80 := Tryz.zeroValue195
  i0 := by kernel_rfl
  i2 := by kernel_rfl
  i3 := by kernel_rfl
  i4 := by kernel_rfl
  i5 := by kernel_rfl
  i9 := by kernel_rfl
  i20 := by kernel_rfl
  i21 := by kernel_rfl
  i37 := by kernel_rfl
  i46 := by kernel_rfl
  i51 := by kernel_rfl
  i53 := by kernel_rfl
  i75 := by kernel_rfl
  i76 := by kernel_rfl
  i80 := by kernel_rfl
  i85 := by kernel_rfl
  i127 := by kernel_rfl
  i143 := by kernel_rfl
  i145 := by kernel_rfl
  i167 := by kernel_rfl
  i168 := by kernel_rfl
  i171 := by kernel_rfl
  i173 := by kernel_rfl
  i175 := by kernel_rfl
  i210 := by kernel_rfl
  i212 := by kernel_rfl
  i232 := by kernel_rfl
  i233 := by kernel_rfl
  m15 := by kernel_rfl
  m16 := by kernel_rfl
  m17 := by kernel_rfl
  m18 := by kernel_rfl
  m19 := by kernel_rfl
  c0 := by kernel_rfl
  c2 := by kernel_rfl
  c3 := by kernel_rfl
  c4 := by kernel_rfl
  c5 := by kernel_rfl
  c9 := by kernel_rfl
  c20 := by kernel_rfl
  c21 := by kernel_rfl
  c37 := by kernel_rfl
  c46 := by kernel_rfl
  c51 := by kernel_rfl
  c53 := by kernel_rfl
  c75 := by kernel_rfl
  c76 := by kernel_rfl
  c80 := by kernel_rfl
  c85 := by kernel_rfl
  c127 := by kernel_rfl
  c143 := by kernel_rfl
  c145 := by kernel_rfl
  c167 := by kernel_rfl
  c168 := by kernel_rfl
  c171 := by kernel_rfl
  c173 := by kernel_rfl
  c175 := by kernel_rfl
  c210 := by kernel_rfl
  c212 := by kernel_rfl
  c213 := by kernel_rfl
  c232 := by kernel_rfl
  c233 := by kernel_rfl }
end Go.Proofs
namespace Go.Proofs.YtjdcpnaocjddoaaGreatDoor
open Go Go.RowKit Go.Proofs.Tryz Go.Shelf
theorem suff_one (s : List UInt8) (c : UInt8) : Lib.hasSuffix s [c] = decide (s ≠ [] ∧ nth s (s.length - 1) = c) := by
  unfold Lib.hasSuffix
  rcases List.eq_nil_or_concat s with rfl | ⟨t, x, rfl⟩
  · simp
  · rw [List.concat_eq_append]
    have e : nth (t ++ [x]) ((t ++ [x]).length - 1) = x := by rw [List.length_append]; show nth (t ++ [x]) t.length = x; rw [nth_ap0]; rfl
    rw [e]
    rw [Bool.eq_iff_iff, List.isSuffixOf_iff_suffix, decide_eq_true_eq]
    constructor
    · rintro ⟨u, hu⟩
      exact ⟨by simp, (List.singleton_inj.1 (List.append_inj' hu rfl).2).symm⟩
    · rintro ⟨_, rfl⟩
      exact ⟨t, rfl⟩
theorem count_c (s : List UInt8) (c : UInt8) (w0 : World) : CallsV Tryz.prog 122 [.string (strB s), .string (strB [c])] w0 fun v w' => v = .int .i64 ((s.count c : Nat) : Int) ∧ Ext w0 w' := by
  refine Calls.mono (Any.strings_Count_one layCount (strB s) c w0) ?_
  rintro e w' ⟨rfl, rfl⟩
  exact ⟨_, rfl, by rw [strB_data]; rfl, Upd.refl _ _⟩
theorem index_c (s : List UInt8) (c : UInt8) (w0 : World) : CallsV Tryz.prog 154 [.string (strB s), .string (strB [c])] w0 fun v w' => v = .int .i64 (Lib.indexByte s c) ∧ Ext w0 w' := by
  refine Calls.mono (Any.strings_Index_one layIndex (strB s) c w0) ?_
  rintro e w' ⟨rfl, rfl⟩
  exact ⟨_, rfl, by rw [strB_data], Upd.refl _ _⟩
theorem lindex_c (s : List UInt8) (c : UInt8) (w0 : World) : CallsV Tryz.prog 169 [.string (strB s), .string (strB [c])] w0 fun v w' => v = .int .i64 (Lib.indexByte s c) ∧ Ext w0 w' := by
  refine Calls.mono (Any.stringslite_Index_one { layIndex with } (strB s) c w0) ?_
  rintro e w' ⟨rfl, rfl⟩
  exact ⟨_, rfl, by rw [strB_data], Upd.refl _ _⟩
theorem ixb_c (s : List UInt8) (c : UInt8) (w0 : World) : CallsV Tryz.prog 173 [.string (strB s), .int .u8 (c.toNat : Int)] w0 fun v w' => v = .int .i64 (Lib.indexByte s c) ∧ Ext w0 w' := by
  refine Calls.mono (Any.stringslite_IndexByte layIxB (strB s) (c.toNat : Int) w0) ?_
  rintro e w' ⟨rfl, rfl⟩
  exact ⟨_, rfl, by rw [strB_data]; simp, Upd.refl _ _⟩
theorem has_c (s : List UInt8) (c : UInt8) (w0 : World) (hl : s.length ≤ 1000000000) : CallsV Tryz.prog 121 [.string (strB s), .string (strB [c])] w0 fun v w' => v = .bool (decide (s ≠ [] ∧ nth s (s.length - 1) = c)) ∧ Ext w0 w' := by
  refine Calls.mono (Any.strings_HasSuffix layHas (strB s) (strB [c]) w0 (by rw [strB_size]; omega)) ?_
  rintro e w' ⟨rfl, rfl⟩
  refine ⟨_, rfl, ?_, Upd.refl _ _⟩
  rw [strB_data, strB_data, suff_one]
theorem trim_c (s : List UInt8) (c : UInt8) (w0 : World) (hl : s.length ≤ 1000000000) : CallsV Tryz.prog 125 [.string (strB (s ++ [c])), .string (strB [c])] w0 fun v w' => v = .string (strB s) ∧ Ext w0 w' := by
  refine Calls.mono (Any.strings_TrimSuffix layTrim (strB (s ++ [c])) (strB [c]) w0 (by rw [strB_size, List.length_append]; simp; omega)) ?_
  rintro e w' ⟨rfl, rfl⟩
  refine ⟨_, rfl, ?_, Upd.refl _ _⟩
  rw [strB_data, strB_data]
  unfold Lib.trimSuffix
  rw [suff_one, if_pos (by rw [decide_eq_true_eq]; exact ⟨by simp, by rw [List.length_append]; show nth (s ++ [c]) s.length = c; rw [nth_ap0]; rfl⟩)]
  rw [List.length_append]
  show Value.string (strB ((s ++ [c]).take s.length)) = _
  rw [List.take_left' rfl]
theorem strs_of (l : List ByteArray) : l.map Value.string = (l.map (·.data.toList)).flatMap encStr := by
  induction l with
  | nil => rfl
  | cons x l ih =>
    rw [List.map_cons, List.map_cons, List.flatMap_cons, ih]; rfl
theorem genSplit_c (s : List UInt8) (c : UInt8) (w0 : World) (hl : s.length ≤ 1000000000) : CallsV Tryz.prog 174 [.string (strB s), .string (strB [c]), .int .i64 0, .int .i64 (-1)] w0 fun v w' => (∃ b, v = .slice (some ⟨b, 0, none⟩) (pcs c s).length (pcs c s).length ∧ w0.heap.size ≤ b ∧ Blk w' b 9 ((pcs c s).flatMap encStr)) ∧ Ext w0 w' := by
  have e1 : Lib.countB (strB s) (strB [c]) = s.count c := by
    show Lib.count (strB s).data.toList (strB [c]).data.toList = _
    rw [strB_data, strB_data, Lib.count_one]
  have hcl : s.count c ≤ s.length := List.count_le_length
  have h := Any.strings_genSplit_core layGen (by kernel_rfl) (strB s) (strB [c]) 0 (-1) (s.count c + 1) w0 (by rw [strB_size]; omega) (by rw [strB_size]; exact Nat.le_refl _) (Nat.zero_le _)
    (fun x cs _ => (Any.strings_Index_one { layGen with } x c _).mono fun e w' ⟨he, hw⟩ => ⟨by
      rw [he]
      show _ = Ending.returned (Value.int .i64 (Lib.index x.data.toList (strB [c]).data.toList))
      rw [strB_data, Lib.index_one], hw⟩)
    ((Any.strings_Count_one { layGen with } (strB s) c w0).mono fun e w' ⟨he, hw⟩ => ⟨by rw [he, e1, strB_data]; rfl, hw⟩)
    (by decide) (by decide) (by rw [e1, if_pos (by decide), strB_size]; omega)
  refine Calls.mono h ?_
  rintro e w' ⟨rfl, rfl⟩
  have e2 := Lib.splitB_data (strB [c]) 0 (s.count c) (strB s)
  rw [strB_data, strB_data, splitK_pcs c _ s rfl] at e2
  have e3 : (Lib.splitB (strB [c]) 0 (s.count c + 1 - 1) (strB s)).length = (pcs c s).length := by rw [Nat.add_sub_cancel, ← e2, List.length_map]
  have e4 : s.count c + 1 = (pcs c s).length := (pcs_count c s).symm
  have e5 : Lib.cellsOf (Lib.splitB (strB [c]) 0 (s.count c + 1 - 1) (strB s)) (s.count c + 1) = ((pcs c s).flatMap encStr).toArray := by
    rw [Nat.add_sub_cancel] at e3 ⊢
    rw [e4, ← e3, Lib.cellsOf_full, strs_of, ← e2]
  refine ⟨_, rfl, ⟨w0.heap.size, by rw [e3, e4], Nat.le_refl _, ?_⟩, ?_⟩
  · rw [e5]
    exact World.alloc_heap_new w0 _
  · exact Upd.alloc _ _

end Go.Proofs.YtjdcpnaocjddoaaGreatDoor
namespace Go.Proofs.YtjdcpnaocjddoaaGreatDoor
open Go Go.RowKit

/-- What an iterator is given: at each place where Y holds it may hand out the element, and Z holds behind it; the loop's own blocks l and D are left alone. -/
structure Hands {γ : Type} (P : Program) (l D : Nat) (enc : γ → Value) (Y Z : γ → World → Prop) (R : World → Prop) : Prop where
  keep : ∀ {W W' : World} {S : Nat → Prop}, R W → Upd S W W' → ¬ S l → ¬ S D → R W'
  cell : ∀ {W : World} {b : Nat} {t : TypeId} {cs : List Value}, R W → Blk W b t cs → b ≠ l ∧ b ≠ D
  hand : ∀ x W, Y x W → R W → YieldAt Fence.wide 3 P l #[enc x] W fun e W' => e = .returned (.bool true) ∧ Z x W' ∧ R W'

/-- It stands where the loop's record is turned. -/
def Turned {β : Type} (l : Nat) (I : β → World → Prop) : Prop := ∀ x W W', I x W → (∃ r, W.heap[l]? = some (.loop r)) → Upd (· = l) W W' → I x W'
theorem Turned.and {β : Type} {l : Nat} {I J : β → World → Prop} (h : Turned l I) (k : Turned l J) : Turned l (fun x W => I x W ∧ J x W) := fun x W W' hi hl u => ⟨h x W W' hi.1 hl u, k x W W' hi.2 hl u⟩

section
variable {P : Program} {Q : Exit → Act → World → Prop} {N : Nat} {ds : List Deferred} {L : Slots} {w : World}

end

theorem Blk.notLoop {w : World} {b l : Nat} {t : TypeId} {cs : List Value} (h : Blk w b t cs) (hl : ∃ r, w.heap[l]? = some (.loop r)) : b ≠ l := fun e => by
  subst e; obtain ⟨r, hl⟩ := hl; unfold Blk at h; rw [hl] at h; cases h
theorem Sl.notLoop {α : Type} [Inhabited α] {enc : α → List Value} {k : Nat} (hk : ∀ x, 0 < (enc x).length) {w : World} {ao : Option Addr} {b o l : Nat} {xs : List α} (h : Sl enc k w ao b o xs) (hl : ∃ r, w.heap[l]? = some (.loop r)) (hp : 0 < xs.length) : b ≠ l := fun e => by
  subst e; obtain ⟨r, hl⟩ := hl
  have h1 := h.at_ 0 hp 0 _ (List.getElem?_eq_getElem (hk _))
  simp [World.cell?, hl] at h1
end Go.Proofs.YtjdcpnaocjddoaaGreatDoor
namespace Go.Proofs.YtjdcpnaocjddoaaGreatDoor
open Go Go.RowKit

/-- How a round ends that may leave. -/
def postL (B : Nat) (Z Zf : World → Prop) (W : World) : Exit → Act → World → Prop
  | .normal, _, W' => KeepsFrom B W W' ∧ Z W'
  | .ret, _, W' => KeepsFrom B W W' ∧ Zf W'
  | _, _, _ => False

/-- What an iterator is given: at each place where Y holds it may hand out the element; Z holds behind it, or it is told to end, and Zf holds; the loop's own blocks l and D are left alone. -/
structure HandsL {γ : Type} (P : Program) (l D : Nat) (enc : γ → Value) (Y Z Zf : γ → World → Prop) (R Rf : World → Prop) : Prop where
  keep : ∀ {W W' : World} {S : Nat → Prop}, R W → Upd S W W' → ¬ S l → ¬ S D → R W'
  keepf : ∀ {W W' : World} {S : Nat → Prop}, Rf W → Upd S W W' → ¬ S l → ¬ S D → Rf W'
  cell : ∀ {W : World} {b : Nat} {t : TypeId} {cs : List Value}, R W → Blk W b t cs → b ≠ l ∧ b ≠ D
  hand : ∀ x W, Y x W → R W → YieldAt Fence.wide 3 P l #[enc x] W fun e W' => (e = .returned (.bool true) ∧ Z x W' ∧ R W') ∨ (e = .returned (.bool false) ∧ Zf x W' ∧ Rf W')

section
variable {P : Program} {Q : Exit → Act → World → Prop} {N : Nat} {ds : List Deferred} {L : Slots} {w : World}

theorem c_rangeL {γ : Type} {go : Operand} {p : Nat} {assign body : Code} {gf : Nat} {lb : List Value} {enc : γ → Value} (ho : Own P gf)
    (hp : Nat.blt p N = true) (hg : ev L go = some (.func (.func gf) #[] lb.toArray))
    (Y Z Zf : γ → World → Prop) (E Ef : World → Prop) (hZo : Turned (w.heap.size + 1) Z) (hZfo : Turned (w.heap.size + 1) Zf) (hEo : Turned (w.heap.size + 1) (fun (_ : Unit) W => E W)) (hEfo : Turned (w.heap.size + 1) (fun (_ : Unit) W => Ef W))
    (hiter : ∀ (l D : Nat) (R Rf : World → Prop) (W : World), D = w.heap.size → l = w.heap.size + 1 → W.heap.size = w.heap.size + 2 → Ext w W → HandsL P l D enc Y Z Zf R Rf → R W →
      CallsV P gf (.func (.yield l) #[] #[] :: lb) W (fun _ W' => (E W' ∧ R W') ∨ (Ef W' ∧ Rf W')))
    {δ : Type} (La : γ → δ → Slots) (Y' : γ → δ → World → Prop) (hYo' : ∀ d, Turned (w.heap.size + 1) (fun x W => Y' x d W))
    (hassign : ∀ (l : Nat) (x : γ) (W : World) (K : Act → World → Prop), Y x W → (∀ d L' W', Sub (La x d) L' → Ext W W' → Y' x d W' → QK K N [] L' W') → WC (some l) P (Exit.then K (fun _ _ _ => False)) N [] assign ((p, enc x) :: L) W)
    (hbody : ∀ (l : Nat) (x : γ) (d : δ) (W : World), Y' x d W → WC (some l) P (postL w.heap.size (Z x) (Zf x) W) N [] body (La x d) W)
    (hleft : ∀ (D : Nat) (W : World), w.heap.size ≤ D → Ef W → W.heap[D]? = some (.deferred (some [])) → QK (Q .ret) N (mark D :: ds) L W)
    (hdone : ∀ (D : Nat) (W : World), w.heap.size ≤ D → E W → W.heap[D]? = some (.deferred (some [])) → QK (Q .normal) N (mark D :: ds) L W) :
    WC none P Q N ds (.rangeFunc go #[p] assign body) L w := by
  refine ⟨fun a ha => ?_⟩
  refine wpIn_rangeFunc (F := Fence.wide) (n := 3) fun fn hfn => ?_
  let rec_ : LoopState → Option Code → Loop := fun st pd => { state := st, pending := pd, fn, tmps := a.tmps, params := #[p], assign, body, defers := w.heap.size }
  have hsz : ((w.alloc (.deferred (some []))).alloc (.loop (rec_ .ready none))).heap.size = w.heap.size + 2 := by simp
  have hD1 : ((w.alloc (.deferred (some []))).alloc (.loop (rec_ .ready none))).heap[w.heap.size]? = some (.deferred (some [])) :=
    ((Upd.alloc (w.alloc (.deferred (some []))) (.loop (rec_ .ready none))).block _ (by simp) id).trans (World.alloc_heap_new w _)
  have hL1 : ((w.alloc (.deferred (some []))).alloc (.loop (rec_ .ready none))).heap[w.heap.size + 1]? = some (.loop (rec_ .ready none)) := by
    have := World.alloc_heap_new (w.alloc (.deferred (some []))) (.loop (rec_ .ready none)); rwa [World.size_alloc] at this
  have hE1 : Ext w ((w.alloc (.deferred (some []))).alloc (.loop (rec_ .ready none))) := (Upd.alloc _ _).trans (Upd.alloc _ _)
  refine ⟨w.heap.size + 1, [{ target := .collected w.heap.size, args := #[] }], (w.alloc (.deferred (some []))).alloc (.loop (rec_ .ready none)), { target := .fn (.func gf) lb.toArray, args := #[.func (.yield (w.heap.size + 1)) #[] #[]] }, (w.alloc (.deferred (some []))).alloc (.loop (rec_ .ready none)), gf,
    #[.func (.yield (w.heap.size + 1)) #[] #[]] ++ lb.toArray, (w.alloc (.deferred (some []))).alloc (.loop (rec_ .ready none)), ?_, ?_, fun _ _ => trivial, ?_, fun _ => by decide, ?_⟩
  · exact run_enterLoop_outer _ _ _ _ _
  · simp only [resolve, ha.ev hg]
    simp [go_sem]
  · simp [invoke, go_sem, ho.run]
  · have hH : HandsL P (w.heap.size + 1) w.heap.size enc Y Z Zf (fun W => W.heap[w.heap.size + 1]? = some (.loop (rec_ .ready none)) ∧ W.heap[w.heap.size]? = some (.deferred (some []))) (fun W => W.heap[w.heap.size + 1]? = some (.loop (rec_ .done (some .ret))) ∧ W.heap[w.heap.size]? = some (.deferred (some []))) := by
      refine ⟨fun {W W' S} h u h1 h2 => ⟨(u.block _ (lt_of_block h.1) h1).trans h.1, (u.block _ (lt_of_block h.2) h2).trans h.2⟩, fun {W W' S} h u h1 h2 => ⟨(u.block _ (lt_of_block h.1) h1).trans h.1, (u.block _ (lt_of_block h.2) h2).trans h.2⟩, fun {W b t cs} h hb => ⟨fun e => ?_, fun e => ?_⟩, ?_⟩
      · subst e; unfold Blk at hb; rw [h.1] at hb; cases hb
      · subst e; unfold Blk at hb; rw [h.2] at hb; cases hb
      rintro x W hy ⟨hl, hd⟩
      have hyl := run_yield (P := P) (args := #[enc x]) hl rfl
      refine ⟨fn, _, assign, body, hyl, roundIn_of_wpIn (F := Fence.wide) (n := 3) hfn ?_⟩
      have hk : Kn N [] ((p, enc x) :: L) { tmps := (#[p].zip #[enc x]).foldl (fun t (p, v) => t.setIfInBounds p v) a.tmps, defers := [] } := by
        have h1 : Kn N [] L { a with defers := [] } := ⟨ha.size, rfl, ha.get⟩
        have h2 := h1.put (enc x) hp
        refine ⟨by simpa [Act.put] using h2.size, rfl, fun k v hv => ?_⟩
        have := h2.get k v hv
        simpa [Act.put] using this
      refine hassign (w.heap.size + 1) x W _ hy (fun δ L' W hs hu hy' => ⟨fun a' ha' => ?_⟩) _ hk
      replace hl := (hu.block _ (lt_of_block hl) (fun h => h)).trans hl
      replace hd := (hu.block _ (lt_of_block hd) (fun h => h)).trans hd
      have hlt := lt_of_block hl
      refine ⟨_, run_beginRound hl rfl, ?_⟩
      have hl2 : (W.putObj (w.heap.size + 1) (.loop { rec_ .ready none with state := .busy })).heap[w.heap.size + 1]? = some (.loop { rec_ .ready none with state := .busy }) := World.putObj_heap_same hlt
      have hd2 : (W.putObj (w.heap.size + 1) (.loop { rec_ .ready none with state := .busy })).heap[w.heap.size]? = some (.deferred (some [])) := (World.putObj_heap_other (by omega)).trans hd
      refine wpIn_mono (hbody (w.heap.size + 1) x δ _ (hYo' _ _ _ _ hy' ⟨_, hl⟩ (Upd.putObj _ _ _)) a' (ha'.sub hs)) ?_
      rintro e a3 W3 hp3
      cases e with
      | normal =>
        obtain ⟨hk3, hz⟩ := hp3
        have hl3 := hk3.same _ _ (by omega) hl2 rfl
        have hd3 := hk3.same _ _ (Nat.le_refl _) hd2 rfl
        exact ⟨_, _, run_endRound none hl3, .inl ⟨rfl, hZo _ _ _ hz ⟨_, hl3⟩ (Upd.putObj _ _ _), World.putObj_heap_same (lt_of_block hl3), (World.putObj_heap_other (by omega)).trans hd3⟩⟩
      | ret =>
        obtain ⟨hk3, hz⟩ := hp3
        have hl3 := hk3.same _ _ (by omega) hl2 rfl
        have hd3 := hk3.same _ _ (Nat.le_refl _) hd2 rfl
        exact ⟨_, _, run_endRound (some .ret) hl3, .inr ⟨rfl, hZfo _ _ _ hz ⟨_, hl3⟩ (Upd.putObj _ _ _), World.putObj_heap_same (lt_of_block hl3), (World.putObj_heap_other (by omega)).trans hd3⟩⟩
      | exit id => exact hp3.elim
      | goto t => exact hp3.elim
      | panic ch => exact hp3.elim
      | outgrown => exact hp3.elim
    have hc := hiter (w.heap.size + 1) w.heap.size _ _ _ rfl rfl hsz hE1 hH ⟨hL1, hD1⟩
    have e0 : (#[Value.func (.yield (w.heap.size + 1)) #[] #[]] ++ lb.toArray : Array Value) = (Value.func (.yield (w.heap.size + 1)) #[] #[] :: lb).toArray := by simp
    rw [e0]
    refine callsIn_wide.2 (Calls.mono hc ?_)
    rintro e W2 ⟨v, rfl, ⟨hE, hl, hd⟩ | ⟨hE, hl, hd⟩⟩
    · refine ⟨none, _, run_endLoop hl (by simp [rec_]), ?_⟩
      refine hdone w.heap.size _ (Nat.le_refl _) (hEo () _ _ hE ⟨_, hl⟩ (Upd.putObj _ _ _)) ((World.putObj_heap_other (by omega)).trans hd) _ ⟨ha.size, ?_, ha.get⟩
      simp [ha.defers, mark]
    · refine ⟨some .ret, _, run_endLoop hl (by simp [rec_]), wpIn_ret ?_⟩
      refine hleft w.heap.size _ (Nat.le_refl _) (hEfo () _ _ hE ⟨_, hl⟩ (Upd.putObj _ _ _)) ((World.putObj_heap_other (by omega)).trans hd) _ ⟨ha.size, ?_, ha.get⟩
      simp [ha.defers, mark]
end
end Go.Proofs.YtjdcpnaocjddoaaGreatDoor
