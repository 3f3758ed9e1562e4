/-
  Stores into a gathered slice. Conditions: none; they hold over any program.
-/
import Derived.Test.YtagmodjadmecdaaGreatHWr
namespace Go.Proofs.YtagmodjadmecdaaGreat
open Go Go.RowKit
theorem Acc.ofWr {α : Type} [Inhabited α] {enc : α → List Value} {k : Nat} {e : TypeId} {base : Nat} {w w' : World} {ao : Option Addr} {g cap : Nat} {xs ys : List α} (h : Acc enc k e base w ao g cap xs) (hk : ∀ x, (enc x).length = k) (hp : 0 < xs.length)
    (hw : Wr enc k e w' g ys) (hl : ys.length = xs.length) (hsz : ∀ cur : Array Value, w.heap[g]? = some (.cells cur e (0, 0)) → ∃ cur' : Array Value, w'.heap[g]? = some (.cells cur' e (0, 0)) ∧ cur'.size = cur.size) : Acc enc k e base w' ao g cap ys := by
  rcases h.at_ with ⟨_, h1, _⟩ | ⟨h1, h2, cur, h3, h4, h5, h6, _⟩
  · subst h1; simp at hp
  · obtain ⟨cur', hc, hs⟩ := hsz cur h3
    obtain ⟨cur2, hc2, hs2, hr⟩ := hw.at_ (by omega)
    rw [hc] at hc2
    injection hc2 with hc2
    injection hc2 with hc2
    subst hc2
    refine ⟨lt_of_block hc, .inr ⟨h1, h2, cur', hc, by omega, h5, by rw [hs, h6], ?_⟩⟩
    refine List.ext_getElem? fun q => ?_
    by_cases hq : q < ys.length * k
    · have hk0 : 0 < k := by
        rcases Nat.eq_zero_or_pos k with h | h
        · subst h; simp at hq
        · exact h
      have hi : q / k < ys.length := (Nat.div_lt_iff_lt_mul hk0).2 hq
      have hqr : q / k * k + q % k = q := by rw [Nat.mul_comm]; exact Nat.div_add_mod q k
      have hlt : q % k < (enc (nth ys (q / k))).length := by rw [hk]; exact Nat.mod_lt _ hk0
      have hv := List.getElem?_eq_getElem hlt
      have e1 := hr (q / k) hi (q % k) _ hv
      have e2 := flatMap_at hk ys (q / k) (q % k) _ hi hv
      rw [hqr] at e1 e2
      rw [List.getElem?_take, if_pos hq, e2]
      simpa using e1
    · rw [List.getElem?_eq_none (by rw [List.length_take]; omega), List.getElem?_eq_none (by rw [flatMap_len hk]; omega)]
theorem wr_set {α : Type} [Inhabited α] {enc : α → List Value} {k : Nat} {e : TypeId} {w w' : World} {g j o' off n : Nat} {xs : List α} {vs : List Value} {x' : α} {cur : List Value} (hk : ∀ x, (enc x).length = k) (hw : Wr enc k e w g xs) (hj : j < xs.length) (hB : Blk w g e cur) (hB' : Blk w' g e (lay cur off vs)) (hn : vs.length = n) (hl : o' + n ≤ k) (hx' : enc x' = lay (enc (nth xs j)) o' vs) (hoff : off = j * k + o') : Wr enc k e w' g (xs.set j x') := by
  subst hoff
  obtain ⟨cur2, hcur, hsz, hr⟩ := hw.at_ (by omega)
  have e1 : cur2 = cur.toArray := by
    have : w.heap[g]? = some (.cells cur.toArray e (0, 0)) := hB
    rw [hcur] at this
    injection this with this
    injection this with this
  subst e1
  have hjk : (j + 1) * k ≤ xs.length * k := Nat.mul_le_mul_right k hj
  rw [Nat.add_mul, Nat.one_mul] at hjk
  rw [List.size_toArray] at hsz
  have hle : j * k + o' + n ≤ cur.length := by omega
  refine ⟨fun hp => ⟨(lay cur (j * k + o') vs).toArray, hB', by rw [List.length_set, List.size_toArray, lay_length]; exact hsz, fun i hi r z hz => ?_⟩⟩
  rw [List.length_set] at hi
  rw [List.getElem?_toArray, lay_get _ _ _ _ (by rw [hn]; exact hle)]
  by_cases hij : i = j
  · subst hij
    rw [show nth (xs.set i x') i = x' by simp [nth, List.getD_eq_getElem?_getD, hi]] at hz
    rw [hx', lay_get _ _ _ _ (by rw [hn, hk]; exact hl)] at hz
    by_cases hc1 : o' ≤ r ∧ r < o' + vs.length
    · rw [if_pos hc1] at hz
      rw [if_pos (by omega), show i * k + r - (i * k + o') = r - o' by omega]; exact hz
    · rw [if_neg hc1] at hz
      rw [if_neg (by omega)]
      have := hr i hi r z hz
      simpa using this
  · rw [show nth (xs.set j x') i = nth xs i by simp [nth, List.getD_eq_getElem?_getD, List.getElem?_set_ne (Ne.symm hij)]] at hz
    have hrk : r < k := by
      have := (List.getElem?_eq_some_iff.1 hz).1
      rwa [hk] at this
    have := hr i hi r z hz
    rw [if_neg ?_]
    · simpa using this
    · intro hcc
      rcases Nat.lt_or_gt_of_ne hij with h1 | h1
      · have : (i + 1) * k ≤ j * k := Nat.mul_le_mul_right k h1
        rw [Nat.add_mul, Nat.one_mul] at this
        omega
      · have : (j + 1) * k ≤ i * k := Nat.mul_le_mul_right k h1
        rw [Nat.add_mul, Nat.one_mul] at this
        omega
section
variable {rd : Option Nat} {P : Program} {ops : Array Oper} {Q : Exit → Act → World → Prop} {N : Nat} {ds : List Deferred} {rest : List Oper} {L : Slots} {w : World}
variable {ty : TypeId} {pos : String} {aft : Array Edge} {gd : Option (Nat × Bool)}
theorem t_storeA {α : Type} [Inhabited α] {enc : α → List Value} {k : Nat} {u e : TypeId} {x y : Operand} {base : Nat} {ao : Option Addr} {g cap j o' off n : Nat} {xs : List α} {vs : List Value} {v : Value} (x' : α) (hk : ∀ x, (enc x).length = k) (hs : ∀ w, (sizeOf u).run P w = .ok n w) (hg : grd ops L gd = true)
    (hx : ev L x = some (.pointer (some ⟨g, off, none⟩))) (hoff : off = j * k + o') (hy : ev L y = some v) (hw : Acc enc k e base w ao g cap xs) (hj : j < xs.length) (hc : v.cells = vs.toArray) (hn : vs.length = n) (hl : o' + n ≤ k) (hv : ∀ v ∈ vs, v.oneCell' = true) (hx' : enc x' = lay (enc (nth xs j)) o' vs)
    (h : ∀ w', Acc enc k e base w' ao g cap (xs.set j x') → Upd (· = g) w w' → WL rd P ops Q N ds rest L w') :
    WL rd P ops Q N ds (⟨none, .store u x y, ty, pos, aft, gd⟩ :: rest) L w := by
  have hwr := hw.wr hk
  obtain ⟨cur, hcur, hsz, hr⟩ := hwr.at_ (by omega)
  have hB : Blk w g e cur.toList := by simpa [Blk] using hcur
  have hjk : (j + 1) * k ≤ xs.length * k := Nat.mul_le_mul_right k hj
  rw [Nat.add_mul, Nat.one_mul] at hjk
  have hle : off + n ≤ cur.toList.length := by rw [Array.length_toList, hoff]; omega
  refine t_store (b := g) (t := e) hs hg hx hy hB hc hn hle hv fun w' hsize hB' hu => ?_
  refine h w' (hw.ofWr hk (by omega) (ys := xs.set j x') ?_ (by rw [List.length_set]) fun c2 hc2 => ?_) hu
  · exact wr_set hk hwr hj hB hB' hn hl hx' hoff
  · rw [hcur] at hc2
    injection hc2 with hc2
    injection hc2 with hc2
    subst hc2
    exact ⟨(lay cur.toList off vs).toArray, hB', by rw [List.size_toArray, lay_length, Array.length_toList]⟩
end
end Go.Proofs.YtagmodjadmecdaaGreat
