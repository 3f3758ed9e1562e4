/-
  Part 6 of the proof: contracts and plain laws. Conditions: none.
-/
import Derived.Shelf.SlSortCmp.WholeK
import Derived.Shelf.SlSortCmp.NoneTotal
import Derived.Ground.SlsfProg
import Derived.Test.YtjkpkbdoljjeiaaGreatProg
import Derived.Test.YtjkpkbdoljjeiaaGreatAK5
namespace Go.Proofs.YtjkpkbdoljjeiaaGreat
open Go Go.RowKit
/-- A slice in memory, what it holds. -/
structure Hl (α : Type) where
  xs : List α
  ao : Option Addr
  g : Nat
  o : Nat
  cp : Nat
instance {α : Type} : Inhabited (Hl α) := ⟨⟨[], none, 0, 0, 0⟩⟩
def encHl {α : Type} (h : Hl α) : List Value := [.slice h.ao h.xs.length h.cp]
theorem Acc.ge {α : Type} {enc : α → List Value} {k : Nat} {e : TypeId} {base : Nat} {w : World} {ao : Option Addr} {g cap : Nat} {xs : List α} (h : Acc enc k e base w ao g cap xs) (hp : 0 < xs.length) : base ≤ g := by
  rcases h.at_ with ⟨_, h1, _⟩ | ⟨_, h2, _⟩
  · subst h1; simp at hp
  · exact h2
theorem subAddr0 (ao : Option Addr) (cap k : Nat) : subAddr ao cap 0 k = ao := by
  unfold subAddr
  split
  · rfl
  · cases ao <;> simp [Addr.add]
section
variable {α : Type} [Inhabited α] {p : α → Bool} {l : List α} {j k : Nat}
/-- What is kept of the first elements. -/
def kp (p : α → Bool) (l : List α) (j : Nat) : List α := (l.take j).filter fun x => !p x
/-- What DeleteFunc's slice holds when j elements are looked at. -/
def dl (p : α → Bool) (l : List α) (j : Nat) : List α := kp p l j ++ l.drop (kp p l j).length
omit [Inhabited α] in
theorem kp_le (h : j ≤ l.length) : (kp p l j).length ≤ j := by
  unfold kp
  have := List.length_filter_le (fun x => !p x) (l.take j)
  rw [List.length_take] at this
  omega
omit [Inhabited α] in
theorem dl_len (h : j ≤ l.length) : (dl p l j).length = l.length := by
  have := kp_le (p := p) h
  simp only [dl, List.length_append, List.length_drop]; omega
theorem dl_nth (h : j < l.length) : nth (dl p l j) j = nth l j := by
  have := kp_le (p := p) (Nat.le_of_lt h)
  simp only [dl, nth, List.getD_eq_getElem?_getD]
  rw [List.getElem?_append_right this, List.getElem?_drop]
  congr 2; omega
theorem kp_no (h : j < l.length) (hq : p (nth l j) = true) : kp p l (j + 1) = kp p l j := by
  unfold kp; rw [take_nth h, List.filter_append]; simp [hq]
theorem kp_yes (h : j < l.length) (hq : p (nth l j) = false) : kp p l (j + 1) = kp p l j ++ [nth l j] := by
  unfold kp; rw [take_nth h, List.filter_append]; simp [hq]
theorem dl_no (h : j < l.length) (hq : p (nth l j) = true) : dl p l (j + 1) = dl p l j := by unfold dl; rw [kp_no h hq]
theorem dl_yes (h : j < l.length) (hq : p (nth l j) = false) : dl p l (j + 1) = (dl p l j).set (kp p l j).length (nth l j) := by
  have h2 := kp_le (p := p) (Nat.le_of_lt h)
  unfold dl
  rw [kp_yes h hq, List.set_append_right _ _ (Nat.le_refl _), Nat.sub_self, drop_nth (xs := l) (i := (kp p l j).length) (by omega), List.set_cons_zero]
  simp
theorem take_ext {m : Nat} (h : m ≤ l.length) (hno : ∀ j, j < m → p (nth l j) = false) : kp p l m = l.take m := by
  unfold kp
  rw [List.filter_eq_self]
  intro x hx
  obtain ⟨i, hi, rfl⟩ := List.mem_iff_getElem.1 hx
  rw [List.length_take] at hi
  have := hno i (by omega)
  rw [nth_eq (by omega)] at this
  simp [this]
theorem kp_init (h : k < l.length) (hp : p (nth l k) = true) (hno : ∀ j, j < k → p (nth l j) = false) : kp p l (k + 1) = l.take k := by rw [kp_no h hp, take_ext (Nat.le_of_lt h) hno]
theorem dl_init (h : k < l.length) (hp : p (nth l k) = true) (hno : ∀ j, j < k → p (nth l j) = false) : dl p l (k + 1) = l := by
  unfold dl
  rw [kp_init h hp hno, List.length_take, Nat.min_eq_left (Nat.le_of_lt h), List.take_append_drop]
end
theorem dl_end {α : Type} {p : α → Bool} {l : List α} : (dl p l l.length).take (kp p l l.length).length = l.filter fun x => !p x := by
  unfold dl; rw [List.take_left']
  · simp [kp]
  · rfl
section
variable {P : Program} {ops : Array Oper} {Q : Exit → Act → World → Prop} {N : Nat} {ds : List Deferred} {rest : List Oper} {L : Slots} {w : World} {rd : Option Nat} {d : Nat} {ty : TypeId} {pos : String} {aft : Array Edge} {g : Option (Nat × Bool)}
theorem WL.value0 {o : Oper} {v : Value} {w' : World} (hg : grd ops L o.guard = true) (hd : o.dst = none)
    (hr : ∀ a, Kn N ds L a → (execOp a.eval o).run P w = .ok (.value v) w') (h : WL rd P ops Q N ds rest L w') : WL rd P ops Q N ds (o :: rest) L w := by
  refine ⟨fun a ha => ?_⟩
  unfold wpListIn
  rw [if_pos (ha.wanted hg)]
  unfold Oper.wpIn
  refine ⟨fun f _ => rnd_fn _ f, ?_⟩
  rw [semAt_of_ok (by simp) (hr a ha), Oper.uponIn_value, hd]
  exact h _ ha
theorem zero_cells {z : Value} {k n : Nat} (hz : z.cells.size = k) : (Builtin.zeroCells z.cells n).toList.length = n * k := by simp [Builtin.zeroCells, hz]
theorem zero_one {z : Value} {n : Nat} (h1 : z.cells.toList.all Value.oneCell' = true) : ∀ u ∈ (Builtin.zeroCells z.cells n).toList, u.oneCell' = true := by
  intro u hu
  simp only [Builtin.zeroCells] at hu
  rw [Array.toList_map] at hu
  obtain ⟨q, hq, rfl⟩ := List.mem_map.1 hu
  simp only [Array.toList_range, List.mem_range] at hq
  have hpos : 0 < z.cells.size := by
    rcases Nat.eq_zero_or_pos z.cells.size with h | h
    · rw [h, Nat.mul_zero] at hq; omega
    · exact h
  have hlt : q % z.cells.size < z.cells.size := Nat.mod_lt _ hpos
  have : z.cells[q % z.cells.size]! = z.cells[q % z.cells.size] := by simp [hlt]
  rw [this]
  exact List.all_eq_true.1 h1 _ (by rw [← Array.getElem_toList hlt]; exact List.getElem_mem _)
/-- clear(s[i:]) of a slice of the call's own. -/
theorem t_clear {α : Type} {enc : α → List Value} {k : Nat} {t e : TypeId} {z : Value} {base : Nat} {x : Operand} {ao : Option Addr} {gb cap i n c : Nat} {xs : List α} {ats : Array TypeId}
    (hu : P.underlying t = some (.slice e)) (ht : ats = #[t]) (hv : ∀ w, (zeroValue e).run P w = .ok z w) (hz : z.cells.size = k) (h1 : z.cells.toList.all Value.oneCell' = true) (hk : ∀ x, (enc x).length = k)
    (hg : grd ops L g = true) (hx : ev L x = some (.slice (subAddr ao cap i k) n c)) (hn : n = xs.length - i) (hi : i ≤ xs.length) (ha : Acc enc k e base w ao gb cap xs)
    (h : ∀ w', w'.heap.size = w.heap.size → Acc enc k e base w' ao gb cap (xs.take i) → Upd (fun j => j = gb ∧ base ≤ j) w w' → WL rd P ops Q N ds rest L w') :
    WL rd P ops Q N ds (⟨none, .call ⟨.builtin .clear, #[x], ats⟩, ty, pos, aft, g⟩ :: rest) L w := by
  subst ht hn
  have hsame : xs.length - i = 0 → WL rd P ops Q N ds (⟨none, .call ⟨.builtin .clear, #[x], #[t]⟩, ty, pos, aft, g⟩ :: rest) L w := fun h0 => by
    have e1 : xs.take i = xs := List.take_of_length_le (by omega)
    refine WL.value0 (v := .tuple #[]) (w' := w) hg rfl (fun a hk => ?_) (h w rfl (by rw [e1]; exact ha) (Upd.refl _ _))
    rw [h0] at hx
    simp only [execOp, resolve, invoke, builtin]
    cases hs : subAddr ao cap i k <;> rw [hs] at hx <;> simp [hk.ev hx, Builtin.clear_, run_underlying hu]
  rcases Nat.eq_zero_or_pos (xs.length - i) with h0 | hp
  · exact hsame h0
  rcases ha.at_ with ⟨_, h2, _⟩ | ⟨h2, h3, cur, h4, h5, h6, h7, h8⟩
  · subst h2; simp at hp
  subst h2
  have hB : Blk w gb e cur.toList := by unfold Blk; rw [h4]
  have hlen := flatMap_len hk xs
  have hzl := zero_cells (n := xs.length - i) hz
  have hcl : cur.toList.length = cap * k := by rw [Array.length_toList]; exact h7
  have hmul : i * k + (xs.length - i) * k = xs.length * k := by rw [← Nat.add_mul]; congr 1; omega
  have hcm : xs.length * k ≤ cap * k := Nat.mul_le_mul_right k h5
  have hsub : subAddr (some ⟨gb, 0, none⟩) cap i k = some ⟨gb, i * k, none⟩ := by rw [subAddr_some (by omega), Nat.zero_add]
  rw [hsub] at hx
  obtain ⟨w', hr, hB', hU, hs⟩ := run_storeCells (P := P) (Builtin.zeroCells z.cells (xs.length - i)).toList w cur.toList (i * k) 0 hB (by rw [hzl, hcl]; omega) (zero_one h1)
  refine WL.value0 (v := .tuple #[]) (w' := w') hg rfl (fun a hk => ?_) (h w' hs ⟨by rw [hs]; exact ha.lt, .inr ⟨rfl, h3, (lay cur.toList (i * k) (Builtin.zeroCells z.cells (xs.length - i)).toList).toArray, ?_, ?_, h6, ?_, ?_⟩⟩ (hU.mono fun j hj => ⟨hj, by omega⟩))
  · obtain ⟨m, hm⟩ : ∃ m, xs.length - i = m + 1 := ⟨xs.length - i - 1, by omega⟩
    rw [hm] at hx hr
    simp only [execOp, resolve, invoke, builtin]
    simp [hk.ev hx, Builtin.clear_, run_underlying hu, hv, hr]
  · have := hB'
    unfold Blk at this
    simpa using this
  · rw [List.length_take]; omega
  · simp only [List.size_toArray, lay_length, Array.length_toList]; exact h7
  · rw [List.length_take, Nat.min_eq_left hi, lay_ov _ _ _ (by rw [hzl, hcl]; omega)]
    have e1 : (i * k) ≤ cur.toList.length := by rw [Array.length_toList, h7]; omega
    rw [List.append_assoc, List.take_append_of_le_length (by rw [List.length_take]; omega), List.take_take, Nat.min_self]
    have e2 : cur.toList.take (i * k) = (cur.toList.take (xs.length * k)).take (i * k) := by rw [List.take_take, Nat.min_eq_left (by omega)]
    rw [e2, h8]
    have e3 : xs.flatMap enc = (xs.take i).flatMap enc ++ (xs.drop i).flatMap enc := by rw [← List.flatMap_append, List.take_append_drop]
    rw [e3, List.take_left' (by rw [flatMap_len hk, List.length_take, Nat.min_eq_left hi])]
/-- append(nil, make(S, m)...): a new row. -/
theorem t_appZN {t tn e : TypeId} {z : Value} {bytes k : Nat} (m : Nat) {s x : Operand} {mv : Int}
    (hu : P.underlying t = some (.slice e)) (hun : P.underlying tn = some (.int .i64)) (hi : (P.info? e).map (fun i => (i.zero, i.size, i.bytes)) = some (some z, k, bytes)) (hz : z.cells.size = k) (hk0 : 0 < k)
    (hg : grd ops L g = true) (hN : Nat.blt d N = true) (hs : ev L s = some (.slice none 0 0)) (hx : ev L x = some (.int .i64 mv)) (hm : mv = (m : Int)) (hm0 : 0 < m) (hsm : m ≤ 1000000) (hby : bytes ≤ 1000)
    (h : ∀ cap' w' zs, m ≤ cap' → cap' ≤ maxLen → List.length zs = cap' * k → Blk w' w.heap.size e zs → Ext w w' → WL rd P ops Q N ds rest ((d, .slice (some ⟨w.heap.size, 0, none⟩) m cap') :: L) w') :
    WL rd P ops Q N ds (⟨some d, .call ⟨.builtin .append, #[s, x], #[t, tn]⟩, ty, pos, aft, g⟩ :: rest) L w := by
  subst hm
  obtain ⟨i0, hi0, hi1, hi2, hi3⟩ := info_parts' hi
  have hold : (Builtin.firstCells i0.size 0 (.slice none 0 0)).run P w.drew = .ok (([] : List Value).toArray) w.drew := run_firstCells_none _ _ _ _ _
  have hb1 : m * bytes ≤ 1000000 * 1000 := Nat.mul_le_mul hsm hby
  have hr := Lib.run_append_grow_zeros (P := P) w t tn ty e i0 z .i64 .i64 hu hun hi0 hi1 none 0 0 [] hold m hm0 (by omega) (by omega) (by omega) (by rw [hi3]; omega) (by rw [hi3]; exact growslice_fits (by omega) (by rw [Nat.zero_add]; omega))
  rw [Nat.zero_add] at hr
  have hge := grownCap_ge w m 0 e
  have hle := grownCap_le_maxLen w m 0 e (by unfold maxLen; omega)
  generalize grownCap w m 0 e = G at hr hge hle
  have hzl : ∀ q, (Builtin.zeroCells z.cells q).size = q * k := fun q => by simp [Builtin.zeroCells, hz]
  have hB : Blk (w.drew.alloc (.cells (([] : List Value).toArray ++ Builtin.zeroCells z.cells m ++ Builtin.zeroCells z.cells (G - m)) e)) w.heap.size e ((Builtin.zeroCells z.cells m).toList ++ (Builtin.zeroCells z.cells (G - m)).toList) := by
    have := Blk.new w.drew e ((Builtin.zeroCells z.cells m).toList ++ (Builtin.zeroCells z.cells (G - m)).toList)
    have e2 : ((Builtin.zeroCells z.cells m).toList ++ (Builtin.zeroCells z.cells (G - m)).toList).toArray = ([] : List Value).toArray ++ Builtin.zeroCells z.cells m ++ Builtin.zeroCells z.cells (G - m) := by
      apply Array.toList_inj.1; simp
    rw [e2] at this
    exact this
  refine WL.value hg rfl hN (fun a hk => ?_) (h G _ _ hge hle ?_ hB ((Upd.drew w).trans (Upd.alloc _ _)))
  · simp only [execOp, resolve, invoke, builtin]
    simp [hk.ev hs, hk.ev hx, hr]
  · simp only [List.length_append, Array.length_toList, hzl]
    rw [← Nat.add_mul]
    congr 1; omega
end
end Go.Proofs.YtjkpkbdoljjeiaaGreat
namespace Go.Proofs.YtjkpkbdoljjeiaaGreat
open Go Go.RowKit
theorem lay_get : ∀ (vs cs : List Value) (i q : Nat), i + vs.length ≤ cs.length → (lay cs i vs)[q]? = if i ≤ q ∧ q < i + vs.length then vs[q - i]? else cs[q]?
  | [], cs, i, q, _ => by rw [if_neg (by simp only [List.length_nil]; omega)]; rfl
  | v :: vs, cs, i, q, h => by
    have hl : i < cs.length := by simp at h; omega
    show (lay (cs.set i v) (i + 1) vs)[q]? = _
    rw [lay_get vs (cs.set i v) (i + 1) q (by simp at h ⊢; omega)]
    by_cases h1 : q = i
    · subst h1
      rw [if_neg (by omega), if_pos (by simp), List.getElem?_set_self hl]
      simp
    · by_cases h2 : i + 1 ≤ q ∧ q < i + 1 + vs.length
      · rw [if_pos h2, if_pos (by simp; omega), show q - i = (q - (i + 1)) + 1 by omega]
        rfl
      · rw [if_neg h2, if_neg (by simp; omega), List.getElem?_set_ne (by omega)]
/-- A block of the call's own whose first cells are the elements xs. -/
structure Wr {α : Type} [Inhabited α] (enc : α → List Value) (k : Nat) (e : TypeId) (w : World) (g : Nat) (xs : List α) : Prop where
  at_ : 0 < xs.length → ∃ cur : Array Value, w.heap[g]? = some (.cells cur e (0, 0)) ∧ xs.length * k ≤ cur.size ∧ ∀ i, i < xs.length → ∀ (r : Nat) (v : Value), (enc (nth xs i))[r]? = some v → cur[i * k + r]? = some v
section
variable {α : Type} [Inhabited α] {enc : α → List Value} {k : Nat} {e : TypeId} {w w' : World} {g : Nat} {xs : List α}
theorem Acc.wr {base : Nat} {ao : Option Addr} {cap : Nat} (h : Acc enc k e base w ao g cap xs) (hk : ∀ x, (enc x).length = k) : Wr enc k e w g xs := ⟨fun hp => by
  rcases h.at_ with ⟨_, h1, _⟩ | ⟨_, _, cur, hc, hl, _, hsz, htk⟩
  · subst h1; simp at hp
  · refine ⟨cur, hc, by rw [hsz]; exact Nat.mul_le_mul_right k hl, fun i hi r v hv => ?_⟩
    have h1 := flatMap_at hk xs i r v hi hv
    rw [← htk, List.getElem?_take] at h1
    split at h1
    · simpa using h1
    · cases h1⟩
theorem Wr.lt (h : Wr enc k e w g xs) (hp : 0 < xs.length) : g < w.heap.size := by
  obtain ⟨cur, hc, _⟩ := h.at_ hp
  exact (Array.getElem?_eq_some_iff.1 hc).1
theorem Wr.keep {S : Nat → Prop} (h : Wr enc k e w g xs) (u : Upd S w w') (hn : 0 < xs.length → ¬ S g) : Wr enc k e w' g xs := ⟨fun hp => by
  obtain ⟨cur, hc, hr⟩ := h.at_ hp
  exact ⟨cur, (u.block g (h.lt hp) (hn hp)).trans hc, hr⟩⟩
theorem Wr.sl {ao : Option Addr} (h : Wr enc k e w g xs) (ha : 0 < xs.length → ao = some ⟨g, 0, none⟩) : Sl enc k w ao g 0 xs :=
  ⟨ha, h.lt, fun i hi j v hv => by
    obtain ⟨cur, hc, hs, hr⟩ := h.at_ (by omega)
    have hB : Blk w g e cur.toList := by simpa [Blk] using hc
    rw [Nat.zero_add]
    exact hB.get (by simpa using hr i hi j v hv)⟩
end
section
variable {rd : Option Nat} {P : Program} {ops : Array Oper} {Q : Exit → Act → World → Prop} {N : Nat} {ds : List Deferred} {rest : List Oper} {L : Slots} {w : World}
variable {ty : TypeId} {pos : String} {aft : Array Edge} {gd : Option (Nat × Bool)}
/-- A store into an element of a slice of the call's own: the element is x'. -/
theorem t_storeW {α : Type} [Inhabited α] {enc : α → List Value} {k : Nat} {u e : TypeId} {x y : Operand} {g j o' off n : Nat} {xs : List α} {vs : List Value} {v : Value} (x' : α) (hk : ∀ x, (enc x).length = k) (hs : ∀ w, (sizeOf u).run P w = .ok n w) (hg : grd ops L gd = true)
    (hx : ev L x = some (.pointer (some ⟨g, off, none⟩))) (hoff : off = j * k + o') (hy : ev L y = some v) (hw : Wr enc k e w g xs) (hj : j < xs.length) (hc : v.cells = vs.toArray) (hn : vs.length = n) (hl : o' + n ≤ k) (hv : ∀ v ∈ vs, v.oneCell' = true) (hx' : enc x' = lay (enc (nth xs j)) o' vs)
    (h : ∀ w', Wr enc k e w' g (xs.set j x') → Upd (· = g) w w' → WL rd P ops Q N ds rest L w') :
    WL rd P ops Q N ds (⟨none, .store u x y, ty, pos, aft, gd⟩ :: rest) L w := by
  subst hoff
  obtain ⟨cur, hcur, hsz, hr⟩ := hw.at_ (by omega)
  have hB : Blk w g e cur.toList := by simpa [Blk] using hcur
  have hjk : (j + 1) * k ≤ xs.length * k := Nat.mul_le_mul_right k hj
  rw [Nat.add_mul, Nat.one_mul] at hjk
  have hle : j * k + o' + n ≤ cur.toList.length := by rw [Array.length_toList]; omega
  refine t_store (b := g) (t := e) hs hg hx hy hB hc hn hle hv fun w' hsize hB' hu => h w' ⟨fun hp => ⟨(lay cur.toList (j * k + o') vs).toArray, hB', by rw [List.length_set, List.size_toArray, lay_length, Array.length_toList]; exact hsz, fun i hi r z hz => ?_⟩⟩ hu
  rw [List.length_set] at hi
  rw [List.getElem?_toArray, lay_get _ _ _ _ (by rw [hn]; exact hle)]
  by_cases hij : i = j
  · subst hij
    rw [show nth (xs.set i x') i = x' by simp [nth, List.getD_eq_getElem?_getD, hi]] at hz
    rw [hx', lay_get _ _ _ _ (by rw [hn, hk]; exact hl)] at hz
    by_cases hc1 : o' ≤ r ∧ r < o' + vs.length
    · rw [if_pos hc1] at hz
      rw [if_pos (by omega), show i * k + r - (i * k + o') = r - o' by omega]; exact hz
    · rw [if_neg hc1] at hz
      rw [if_neg (by omega)]
      have := hr i hi r z hz
      simpa using this
  · rw [show nth (xs.set j x') i = nth xs i by simp [nth, List.getD_eq_getElem?_getD, List.getElem?_set_ne (Ne.symm hij)]] at hz
    have hrk : r < k := by
      have := (List.getElem?_eq_some_iff.1 hz).1
      rwa [hk] at this
    have := hr i hi r z hz
    rw [if_neg ?_]
    · simpa using this
    · intro hcc
      rcases Nat.lt_or_gt_of_ne hij with h1 | h1
      · have : (i + 1) * k ≤ j * k := Nat.mul_le_mul_right k h1
        rw [Nat.add_mul, Nat.one_mul] at this
        omega
      · have : (j + 1) * k ≤ i * k := Nat.mul_le_mul_right k h1
        rw [Nat.add_mul, Nat.one_mul] at this
        omega
end
end Go.Proofs.YtjkpkbdoljjeiaaGreat
namespace Go.Proofs.YtjkpkbdoljjeiaaGreat
open Go Go.RowKit
/-- A gathered slice, put together again from its elements. -/
theorem Acc.ofWr {α : Type} [Inhabited α] {enc : α → List Value} {k : Nat} {e : TypeId} {base : Nat} {w w' : World} {ao : Option Addr} {g cap : Nat} {xs ys : List α} (h : Acc enc k e base w ao g cap xs) (hk : ∀ x, (enc x).length = k) (hp : 0 < xs.length)
    (hw : Wr enc k e w' g ys) (hl : ys.length = xs.length) (hsz : ∀ cur : Array Value, w.heap[g]? = some (.cells cur e (0, 0)) → ∃ cur' : Array Value, w'.heap[g]? = some (.cells cur' e (0, 0)) ∧ cur'.size = cur.size) : Acc enc k e base w' ao g cap ys := by
  rcases h.at_ with ⟨_, h1, _⟩ | ⟨h1, h2, cur, h3, h4, h5, h6, _⟩
  · subst h1; simp at hp
  · obtain ⟨cur', hc, hs⟩ := hsz cur h3
    obtain ⟨cur2, hc2, hs2, hr⟩ := hw.at_ (by omega)
    rw [hc] at hc2
    injection hc2 with hc2
    injection hc2 with hc2
    subst hc2
    refine ⟨lt_of_block hc, .inr ⟨h1, h2, cur', hc, by omega, h5, by rw [hs, h6], ?_⟩⟩
    refine List.ext_getElem? fun q => ?_
    by_cases hq : q < ys.length * k
    · have hk0 : 0 < k := by
        rcases Nat.eq_zero_or_pos k with h | h
        · subst h; simp at hq
        · exact h
      have hi : q / k < ys.length := (Nat.div_lt_iff_lt_mul hk0).2 hq
      have hqr : q / k * k + q % k = q := by rw [Nat.mul_comm]; exact Nat.div_add_mod q k
      have hlt : q % k < (enc (nth ys (q / k))).length := by rw [hk]; exact Nat.mod_lt _ hk0
      have hv := List.getElem?_eq_getElem hlt
      have e1 := hr (q / k) hi (q % k) _ hv
      have e2 := flatMap_at hk ys (q / k) (q % k) _ hi hv
      rw [hqr] at e1 e2
      rw [List.getElem?_take, if_pos hq, e2]
      simpa using e1
    · rw [List.getElem?_eq_none (by rw [List.length_take]; omega), List.getElem?_eq_none (by rw [flatMap_len hk]; omega)]
theorem wr_set {α : Type} [Inhabited α] {enc : α → List Value} {k : Nat} {e : TypeId} {w w' : World} {g j o' off n : Nat} {xs : List α} {vs : List Value} {x' : α} {cur : List Value} (hk : ∀ x, (enc x).length = k) (hw : Wr enc k e w g xs) (hj : j < xs.length) (hB : Blk w g e cur) (hB' : Blk w' g e (lay cur off vs)) (hn : vs.length = n) (hl : o' + n ≤ k) (hx' : enc x' = lay (enc (nth xs j)) o' vs) (hoff : off = j * k + o') : Wr enc k e w' g (xs.set j x') := by
  subst hoff
  obtain ⟨cur2, hcur, hsz, hr⟩ := hw.at_ (by omega)
  have e1 : cur2 = cur.toArray := by
    have : w.heap[g]? = some (.cells cur.toArray e (0, 0)) := hB
    rw [hcur] at this
    injection this with this
    injection this with this
  subst e1
  have hjk : (j + 1) * k ≤ xs.length * k := Nat.mul_le_mul_right k hj
  rw [Nat.add_mul, Nat.one_mul] at hjk
  rw [List.size_toArray] at hsz
  have hle : j * k + o' + n ≤ cur.length := by omega
  refine ⟨fun hp => ⟨(lay cur (j * k + o') vs).toArray, hB', by rw [List.length_set, List.size_toArray, lay_length]; exact hsz, fun i hi r z hz => ?_⟩⟩
  rw [List.length_set] at hi
  rw [List.getElem?_toArray, lay_get _ _ _ _ (by rw [hn]; exact hle)]
  by_cases hij : i = j
  · subst hij
    rw [show nth (xs.set i x') i = x' by simp [nth, List.getD_eq_getElem?_getD, hi]] at hz
    rw [hx', lay_get _ _ _ _ (by rw [hn, hk]; exact hl)] at hz
    by_cases hc1 : o' ≤ r ∧ r < o' + vs.length
    · rw [if_pos hc1] at hz
      rw [if_pos (by omega), show i * k + r - (i * k + o') = r - o' by omega]; exact hz
    · rw [if_neg hc1] at hz
      rw [if_neg (by omega)]
      have := hr i hi r z hz
      simpa using this
  · rw [show nth (xs.set j x') i = nth xs i by simp [nth, List.getD_eq_getElem?_getD, List.getElem?_set_ne (Ne.symm hij)]] at hz
    have hrk : r < k := by
      have := (List.getElem?_eq_some_iff.1 hz).1
      rwa [hk] at this
    have := hr i hi r z hz
    rw [if_neg ?_]
    · simpa using this
    · intro hcc
      rcases Nat.lt_or_gt_of_ne hij with h1 | h1
      · have : (i + 1) * k ≤ j * k := Nat.mul_le_mul_right k h1
        rw [Nat.add_mul, Nat.one_mul] at this
        omega
      · have : (j + 1) * k ≤ i * k := Nat.mul_le_mul_right k h1
        rw [Nat.add_mul, Nat.one_mul] at this
        omega
section
variable {rd : Option Nat} {P : Program} {ops : Array Oper} {Q : Exit → Act → World → Prop} {N : Nat} {ds : List Deferred} {rest : List Oper} {L : Slots} {w : World}
variable {ty : TypeId} {pos : String} {aft : Array Edge} {gd : Option (Nat × Bool)}
/-- A store into an element of a gathered slice: the element is x'. -/
theorem t_storeA {α : Type} [Inhabited α] {enc : α → List Value} {k : Nat} {u e : TypeId} {x y : Operand} {base : Nat} {ao : Option Addr} {g cap j o' off n : Nat} {xs : List α} {vs : List Value} {v : Value} (x' : α) (hk : ∀ x, (enc x).length = k) (hs : ∀ w, (sizeOf u).run P w = .ok n w) (hg : grd ops L gd = true)
    (hx : ev L x = some (.pointer (some ⟨g, off, none⟩))) (hoff : off = j * k + o') (hy : ev L y = some v) (hw : Acc enc k e base w ao g cap xs) (hj : j < xs.length) (hc : v.cells = vs.toArray) (hn : vs.length = n) (hl : o' + n ≤ k) (hv : ∀ v ∈ vs, v.oneCell' = true) (hx' : enc x' = lay (enc (nth xs j)) o' vs)
    (h : ∀ w', Acc enc k e base w' ao g cap (xs.set j x') → Upd (· = g) w w' → WL rd P ops Q N ds rest L w') :
    WL rd P ops Q N ds (⟨none, .store u x y, ty, pos, aft, gd⟩ :: rest) L w := by
  have hwr := hw.wr hk
  obtain ⟨cur, hcur, hsz, hr⟩ := hwr.at_ (by omega)
  have hB : Blk w g e cur.toList := by simpa [Blk] using hcur
  have hjk : (j + 1) * k ≤ xs.length * k := Nat.mul_le_mul_right k hj
  rw [Nat.add_mul, Nat.one_mul] at hjk
  have hle : off + n ≤ cur.toList.length := by rw [Array.length_toList, hoff]; omega
  refine t_store (b := g) (t := e) hs hg hx hy hB hc hn hle hv fun w' hsize hB' hu => ?_
  refine h w' (hw.ofWr hk (by omega) (ys := xs.set j x') ?_ (by rw [List.length_set]) fun c2 hc2 => ?_) hu
  · exact wr_set hk hwr hj hB hB' hn hl hx' hoff
  · rw [hcur] at hc2
    injection hc2 with hc2
    injection hc2 with hc2
    subst hc2
    exact ⟨(lay cur.toList off vs).toArray, hB', by rw [List.size_toArray, lay_length, Array.length_toList]⟩
end
end Go.Proofs.YtjkpkbdoljjeiaaGreat
namespace Go.Proofs.YtjkpkbdoljjeiaaGreat
open Go Go.RowKit

/-- Ascending: no later one is less than an earlier one. -/
def Asc {α : Type} [Inhabited α] (cf : α → α → Int) (ys : List α) : Prop := ∀ i j, i < j → j < ys.length → ¬ cf (nth ys j) (nth ys i) < 0

theorem nth_toArray {α : Type} [Inhabited α] (xs : List α) (i : Nat) : (xs.toArray)[i]! = nth xs i := by
  unfold nth
  rw [List.getD_eq_getElem?_getD]
  rcases Nat.lt_or_ge i xs.length with h | h
  · rw [getElem!_pos _ i (by simpa using h)]
    simp [h]
  · rw [getElem!_neg _ i (by simpa using h)]
    simp [List.getElem?_eq_none h]

theorem upd_sorted {α : Type} [Inhabited α] (enc : α → List Value) (k : Nat) (w : World) (g n : Nat) (d : Array α) (os : Array Obj) : Upd (· = g) w (sortWorldK enc k w g 0 n d os) := by
  refine ⟨rfl, rfl, rfl, ?_, fun i hi hn => ?_⟩
  · simp only [sortWorldK, Go.Sort.putRowK, Go.Sort.grow, Go.Sort.putRow, Go.Sort.mapBlock, Go.Sort.ahead]
    simp
  · simp only [sortWorldK, Go.Sort.putRowK, Go.Sort.grow, Go.Sort.putRow, Go.Sort.mapBlock, Go.Sort.ahead]
    rw [Array.getElem?_append_left (by simpa using hi), Array.getElem?_modify]
    simp [show ¬ g = i from fun e => hn e.symm]

theorem acc_sorted {α : Type} [Inhabited α] {enc : α → List Value} {k : Nat} {e : TypeId} {base : Nat} {w : World} {ao : Option Addr} {g cap : Nat} {xs : List α} (hk0 : 0 < k) (hk : ∀ x, (enc x).length = k) (h : Acc enc k e base w ao g cap xs) (hx : 0 < xs.length)
    (d : Array α) (hd : d.size = xs.length) (n : Nat) (os : Array Obj) : Acc enc k e base (sortWorldK enc k w g 0 n d os) ao g cap d.toList := by
  have u := upd_sorted enc k w g n d os
  refine ⟨Nat.lt_of_lt_of_le h.lt u.size, ?_⟩
  rcases h.at_ with ⟨_, h1, _⟩ | ⟨h1, h2, cur, h3, h4, h5, h6, h7⟩
  · subst h1; simp at hx
  · refine .inr ⟨h1, h2, Go.Sort.putCells id 0 (Go.Sort.flatK enc k d) cur, ?_, by simpa [hd] using h4, h5, by simp [Go.Sort.putCells, h6], ?_⟩
    · simp only [sortWorldK, Go.Sort.putRowK, Go.Sort.grow, Go.Sort.putRow, Go.Sort.mapBlock, Go.Sort.ahead]
      rw [Array.getElem?_append_left (by simpa using h.lt), Array.getElem?_modify]
      simp [h3, Go.Sort.onCells]
    · have hcap : xs.length * k ≤ cap * k := Nat.mul_le_mul_right _ h4
      apply List.ext_getElem?
      intro t
      rcases Nat.lt_or_ge t (xs.length * k) with ht | ht
      · have htd : t / k < d.toList.length := by simp [hd]; exact (Nat.div_lt_iff_lt_mul hk0).2 ht
        have hmod : t % k < k := Nat.mod_lt _ hk0
        have hv : (enc (nth d.toList (t / k)))[t % k]? = some ((enc (nth d.toList (t / k)))[t % k]'(by rw [hk]; exact hmod)) := by simp [hk, hmod]
        have h8 := flatMap_at hk d.toList (t / k) (t % k) _ htd hv
        rw [show t / k * k + t % k = t from Nat.div_add_mod' t k] at h8
        rw [h8, List.getElem?_take, if_pos (by simpa [hd] using ht)]
        have htc : t < cur.size := by omega
        rw [Array.getElem?_toList]
        simp only [Go.Sort.putCells]
        rw [Array.getElem?_mapIdx]
        simp only [Array.getElem?_eq_getElem htc, Option.map_some, Nat.zero_le, true_and, Nat.zero_add, Nat.sub_zero, id]
        rw [if_pos (by rw [Go.Sort.size_flatK, hd]; exact ht), Go.Sort.get_flatK _ _ _ t (by rw [hd]; exact ht)]
        have hda : d[t / k]! = nth d.toList (t / k) := by
          have := nth_toArray d.toList (t / k)
          simpa using this
        rw [hda, getElem!_pos _ (t % k) (by rw [hk]; exact hmod)]
      · rw [List.getElem?_eq_none (by simp [hd]; omega), List.getElem?_eq_none (by rw [flatMap_len hk]; simp [hd]; omega)]

theorem holdsK_acc {α : Type} [Inhabited α] {enc : α → List Value} {k : Nat} {e : TypeId} {base : Nat} {w : World} {ao : Option Addr} {g cap : Nat} {xs : List α} (hk0 : 0 < k) (hk : ∀ x, (enc x).length = k) (h : Acc enc k e base w ao g cap xs) (hx : 0 < xs.length) : Go.Sort.HoldsK enc k w g 0 xs.toArray := by
  intro t ht
  rw [Go.Sort.size_flatK] at ht
  have ht' : t < xs.length * k := by simpa using ht
  rw [Go.Sort.get_flatK _ _ _ t ht, nth_toArray]
  have hmod : t % k < k := Nat.mod_lt _ hk0
  have htd : t / k < xs.length := (Nat.div_lt_iff_lt_mul hk0).2 ht'
  have h8 := (h.sl hk).at_ (t / k) htd (t % k) ((enc (nth xs (t / k)))[t % k]'(by rw [hk]; exact hmod)) (by simp [hk, hmod])
  rw [Nat.zero_add, Nat.div_add_mod'] at h8
  refine ⟨by rw [Nat.zero_add, h8, getElem!_pos _ (t % k) (by rw [hk]; exact hmod)]; rfl, ?_⟩
  rcases h.at_ with ⟨_, h1, _⟩ | ⟨_, _, cur, h3, _⟩
  · subst h1; simp at hx
  · simp [World.frozen?, h3]

/-- A comparison that lays blocks, draws, and turns nothing. -/
def CmpOk {α : Type} (P : Program) (g : Nat) (enc : α → List Value) (cf : α → α → Int) : Prop :=
  ∀ (x y : α) (W : World), Calls P g #[.agg (enc x).toArray, .agg (enc y).toArray] W fun e w' => e = .returned (.int .i64 (cf x y)) ∧ ∃ q os', w' = Go.Sort.grow (W.drewN q) os'

theorem sort_c {α : Type} [Inhabited α] {P : Program} {ρ : Go.Shelf.Ren} (L : SlLaysF0.n6 P ρ) (k : Nat) (hk0 : 0 < k) (aE : ∀ w, (isAgg (ρ.t 24)).run P w = .ok true w) (zE : ∀ w, (sizeOf (ρ.t 24)).run P w = .ok k w) (enc : α → List Value) (hk : ∀ x, (enc x).length = k) (h1 : ∀ x, ∀ v ∈ enc x, v.oneCell' = true)
    (cf : α → α → Int) (hO : Go.Sort.SWO (ltOf cf)) (g : Nat) (eg : Own P g) (hcmp : CmpOk P g enc cf) (e : TypeId) (base : Nat) (ao : Option Addr) (gb cap : Nat) (xs : List α) (w : World) (ha : Acc enc k e base w ao gb cap xs) (hlen : xs.length ≤ 1000000) :
    CallsV P (ρ.f 6) [.slice ao xs.length cap, .func (.func g) #[] #[]] w fun v w' => ∃ ys, List.Perm ys xs ∧ Asc cf ys ∧ Acc enc k e base w' ao gb cap ys ∧ Upd (fun i => i = gb ∧ base ≤ i) w w' ∧ v = .tuple #[] := by
  rcases Nat.eq_zero_or_pos xs.length with h0 | h0
  · have : xs = [] := List.eq_nil_of_length_eq_zero h0
    subst this
    refine Calls.mono (AnyF.slices_SortFunc_none L ao cap _ w) ?_
    rintro e w' ⟨rfl, rfl⟩
    exact ⟨_, rfl, [], List.Perm.refl _, fun i j _ h => by simp at h, ha, Upd.refl _ _, rfl⟩
  · have hao := (ha.sl hk).addr h0
    have hb : base ≤ gb := by
      rcases ha.at_ with ⟨_, h2, _⟩ | ⟨_, h2, _⟩
      · subst h2; simp at h0
      · exact h2
    have hc := AnyQ.slices_SortFunc L k aE zE enc hk h1 cf hO g #[] gb 0 cap xs.toArray w (fun args w => eg.run args w) (fun m os dk _ x y => hcmp x y _) (holdsK_acc hk0 hk ha h0) ha.lt (by simp; omega)
    have hsz : xs.toArray.size = xs.length := by simp
    rw [hsz] at hc
    subst hao
    refine Calls.mono hc ?_
    rintro e w' ⟨rfl, d', n, os, hp, hs, rfl⟩
    have hds : d'.size = xs.length := by rw [hp.1]; simp
    have hdl : d'.toList.length = xs.length := by simpa using hds
    have hacc := acc_sorted hk0 hk ha h0 d' hds n os
    refine ⟨_, rfl, d'.toList, ?_, ?_, hacc, (upd_sorted enc k w gb n d' os).mono (fun i hi => ⟨hi, by omega⟩), rfl⟩
    · have h3 := hp.2.2
      rw [show d'.extract 0 xs.length = d' from by rw [← hds]; exact Array.extract_size, show xs.toArray.extract 0 xs.length = xs.toArray from by rw [← hsz]; exact Array.extract_size] at h3
      simpa using h3
    · intro i j hij hj
      have h4 := hs i j (Nat.zero_le _) hij (by omega)
      have hn : ∀ i, d'[i]! = nth d'.toList i := fun i => by have := nth_toArray d'.toList i; simpa using this
      rw [hn, hn] at h4
      unfold ltOf at h4
      simpa using h4

/-- The same with a comparison that has captured something. -/
theorem sort_cc {α : Type} [Inhabited α] {P : Program} {ρ : Go.Shelf.Ren} (L : SlLaysF0.n6 P ρ) (k : Nat) (hk0 : 0 < k) (aE : ∀ w, (isAgg (ρ.t 24)).run P w = .ok true w) (zE : ∀ w, (sizeOf (ρ.t 24)).run P w = .ok k w) (enc : α → List Value) (hk : ∀ x, (enc x).length = k) (h1 : ∀ x, ∀ v ∈ enc x, v.oneCell' = true)
    (cf : α → α → Int) (hO : Go.Sort.SWO (ltOf cf)) (g : Nat) (eg : Own P g) (cb : List Value) (e : TypeId) (base : Nat) (ao : Option Addr) (gb cap : Nat) (xs : List α) (w : World) (hcmp : 0 < xs.length → ∀ W, Upd (· = gb) w W → ∀ x y, Calls P g (#[.agg (enc x).toArray, .agg (enc y).toArray] ++ cb.toArray) W fun e w' => e = .returned (.int .i64 (cf x y)) ∧ ∃ q os', w' = Go.Sort.grow (W.drewN q) os') (ha : Acc enc k e base w ao gb cap xs) (hlen : xs.length ≤ 1000000) :
    CallsV P (ρ.f 6) [.slice ao xs.length cap, .func (.func g) #[] cb.toArray] w fun v w' => ∃ ys, List.Perm ys xs ∧ Asc cf ys ∧ Acc enc k e base w' ao gb cap ys ∧ Upd (fun i => i = gb ∧ base ≤ i) w w' ∧ v = .tuple #[] := by
  rcases Nat.eq_zero_or_pos xs.length with h0 | h0
  · have : xs = [] := List.eq_nil_of_length_eq_zero h0
    subst this
    refine Calls.mono (AnyF.slices_SortFunc_none L ao cap _ w) ?_
    rintro e w' ⟨rfl, rfl⟩
    exact ⟨_, rfl, [], List.Perm.refl _, fun i j _ h => by simp at h, ha, Upd.refl _ _, rfl⟩
  · have hao := (ha.sl hk).addr h0
    have hb : base ≤ gb := by
      rcases ha.at_ with ⟨_, h2, _⟩ | ⟨_, h2, _⟩
      · subst h2; simp at h0
      · exact h2
    have hc := AnyQ.slices_SortFunc L k aE zE enc hk h1 cf hO g cb.toArray gb 0 cap xs.toArray w (fun args w => eg.run args w) (fun m os dk hdk x y => hcmp h0 _ (upd_sorted enc k w gb m dk os) x y) (holdsK_acc hk0 hk ha h0) ha.lt (by simp; omega)
    have hsz : xs.toArray.size = xs.length := by simp
    rw [hsz] at hc
    subst hao
    refine Calls.mono hc ?_
    rintro e w' ⟨rfl, d', n, os, hp, hs, rfl⟩
    have hds : d'.size = xs.length := by rw [hp.1]; simp
    have hdl : d'.toList.length = xs.length := by simpa using hds
    have hacc := acc_sorted hk0 hk ha h0 d' hds n os
    refine ⟨_, rfl, d'.toList, ?_, ?_, hacc, (upd_sorted enc k w gb n d' os).mono (fun i hi => ⟨hi, by omega⟩), rfl⟩
    · have h3 := hp.2.2
      rw [show d'.extract 0 xs.length = d' from by rw [← hds]; exact Array.extract_size, show xs.toArray.extract 0 xs.length = xs.toArray from by rw [← hsz]; exact Array.extract_size] at h3
      simpa using h3
    · intro i j hij hj
      have h4 := hs i j (Nat.zero_le _) hij (by omega)
      have hn : ∀ i, d'[i]! = nth d'.toList i := fun i => by have := nth_toArray d'.toList i; simpa using this
      rw [hn, hn] at h4
      unfold ltOf at h4
      simpa using h4

end Go.Proofs.YtjkpkbdoljjeiaaGreat
namespace Go.Proofs.YtjkpkbdoljjeiaaGreat
open Go Go.RowKit

theorem Gr.grow {w w' : World} (h : Gr w w') : ∃ q os', w' = Go.Sort.grow (w.drewN q) os' := by
  obtain ⟨h1, h2, h3, h4, os, h5⟩ := h
  refine ⟨w'.drawn - w.drawn, os, ?_⟩
  cases w; cases w'
  simp only [Go.Sort.grow, World.drewN] at *
  simp_all
theorem len_c {P : Program} {ρ : Go.Shelf.Ren} (L : SlLaysF0.n14 P ρ) (n : Nat) (hn : n ≤ 1000000) (w : World) : CallsV P (ρ.f 15) [.int .u64 (n : Int)] w fun v w' => ∃ k : Nat, v = .int .i64 (k : Int) ∧ k < 4611686018427387904 ∧ Ext w w' := by
  have h := Any.bits_Len (SlLaysF0.n15.bits (P := P) (ρ := ρ) { L with }) (n : Int) w (by omega) (by omega)
  rw [Int.toNat_natCast] at h
  refine Calls.mono h ?_
  rintro e w' ⟨rfl, rfl⟩
  exact ⟨_, rfl, Lib.bitLen n, rfl, Nat.lt_of_le_of_lt (Lib.bitLen_le n 62 (by omega) (by omega)) (by omega), Upd.refl _ _⟩
theorem pdq_c {α : Type} [Inhabited α] {P : Program} {ρ : Go.Shelf.Ren} (L : SlLaysF0.n14 P ρ) (k : Nat) (hk0 : 0 < k) (aE : ∀ w, (isAgg (ρ.t 24)).run P w = .ok true w) (zE : ∀ w, (sizeOf (ρ.t 24)).run P w = .ok k w) (enc : α → List Value) (hk : ∀ x, (enc x).length = k) (h1 : ∀ x, ∀ v ∈ enc x, v.oneCell' = true)
    (cf : α → α → Int) (hO : Go.Sort.SWO (ltOf cf)) (g : Nat) (eg : Own P g) (hcmp : CmpOk P g enc cf) (e : TypeId) (base : Nat) (ao : Option Addr) (gb cap : Nat) (xs : List α) (lim : Nat) (hlim : lim < 4611686018427387904) (w : World) (ha : Acc enc k e base w ao gb cap xs) (hlen : xs.length ≤ 1000000) :
    CallsV P (ρ.f 14) [.slice ao xs.length cap, .int .i64 0, .int .i64 (xs.length : Int), .int .i64 (lim : Int), .func (.func g) #[] #[]] w fun v w' => ∃ ys, List.Perm ys xs ∧ Asc cf ys ∧ Acc enc k e base w' ao gb cap ys ∧ Upd (fun i => i = gb ∧ base ≤ i) w w' ∧ v = .tuple #[] := by
  rcases Nat.eq_zero_or_pos xs.length with h0 | h0
  · have : xs = [] := List.eq_nil_of_length_eq_zero h0
    subst this
    refine Calls.mono (AnyF.pdqsortCmpFunc_none L ao cap lim _ w) ?_
    rintro e w' ⟨rfl, rfl⟩
    exact ⟨_, rfl, [], List.Perm.refl _, fun i j _ h => by simp at h, ha, Upd.refl _ _, rfl⟩
  · have hao := (ha.sl hk).addr h0
    have hb : base ≤ gb := by
      rcases ha.at_ with ⟨_, h2, _⟩ | ⟨_, h2, _⟩
      · subst h2; simp at h0
      · exact h2
    have hsz : xs.toArray.size = xs.length := by simp
    have hH := holdsK_acc hk0 hk ha h0
    have hc := AnyQ.pdqsortCmpFunc_all L k aE zE enc cf g #[] hO gb 0 cap xs.toArray w (fun args w => eg.run args w) (fun m os dk _ x y => hcmp x y _) ⟨hk, h1, hH, ha.lt⟩ (xs.length + 1) 0 xs.length lim xs.toArray w (by omega) rfl (SWK.start hH) (Nat.zero_le _) (by rw [hsz]; exact Nat.le_refl _) (by rw [hsz]; omega) hlim (Or.inl rfl)
    rw [hsz] at hc
    subst hao
    refine Calls.mono hc ?_
    rintro e w' ⟨rfl, n, os, rfl⟩
    have hps := Go.Sort.pdq_sorts (ltOf cf) hO xs.toArray 0 xs.length lim true true (Nat.zero_le _) (by rw [hsz]; exact Nat.le_refl _) (Or.inl rfl)
    have hp := hps.1
    have hs := hps.2
    generalize Go.Sort.pdq (ltOf cf) xs.toArray 0 xs.length lim true true = d' at hp hs ⊢
    have hds : d'.size = xs.length := by rw [hp.1]; simp
    have hdl : d'.toList.length = xs.length := by simpa using hds
    have hacc := acc_sorted hk0 hk ha h0 d' hds n os
    refine ⟨_, rfl, d'.toList, ?_, ?_, hacc, (upd_sorted enc k w gb n d' os).mono (fun i hi => ⟨hi, by omega⟩), rfl⟩
    · have h3 := hp.2.2
      rw [show d'.extract 0 xs.length = d' from by rw [← hds]; exact Array.extract_size, show xs.toArray.extract 0 xs.length = xs.toArray from by rw [← hsz]; exact Array.extract_size] at h3
      simpa using h3
    · intro i j hij hj
      have h4 := hs i j (Nat.zero_le _) hij (by omega)
      have hn : ∀ i, d'[i]! = nth d'.toList i := fun i => by have := nth_toArray d'.toList i; simpa using this
      rw [hn, hn] at h4
      unfold ltOf at h4
      simpa using h4
/-- slices.SortFunc with a comparison that has captured something. -/
theorem sort_cv {α : Type} [Inhabited α] {P : Program} {ρ : Go.Shelf.Ren} (L : SlLaysF0.n6 P ρ) (k : Nat) (hk0 : 0 < k) (aE : ∀ w, (isAgg (ρ.t 24)).run P w = .ok true w) (zE : ∀ w, (sizeOf (ρ.t 24)).run P w = .ok k w) (enc : α → List Value) (hk : ∀ x, (enc x).length = k) (h1 : ∀ x, ∀ v ∈ enc x, v.oneCell' = true)
    (cf : α → α → Int) (hO : Go.Sort.SWO (ltOf cf)) (g : Nat) (eg : Own P g) (cb : List Value) (e : TypeId) (base : Nat) (ao : Option Addr) (gb cap : Nat) (xs : List α) (w : World) (hcmp : 0 < xs.length → ∀ W, Upd (· = gb) w W → ∀ x y, CallsV P g ([.agg (enc x).toArray, .agg (enc y).toArray] ++ cb) W fun v w' => (v = .int .i64 (cf x y) ∧ Gr W w') ∧ Ext W w') (ha : Acc enc k e base w ao gb cap xs) (hlen : xs.length ≤ 1000000) :
    CallsV P (ρ.f 6) [.slice ao xs.length cap, .func (.func g) #[] cb.toArray] w fun v w' => ∃ ys, List.Perm ys xs ∧ Asc cf ys ∧ Acc enc k e base w' ao gb cap ys ∧ Upd (fun i => i = gb ∧ base ≤ i) w w' ∧ v = .tuple #[] :=
  sort_cc L k hk0 aE zE enc hk h1 cf hO g eg cb e base ao gb cap xs w (fun h0 W u x y => by
    have h := hcmp h0 W u x y
    unfold CallsV at h
    have e : ([Value.agg (enc x).toArray, Value.agg (enc y).toArray] ++ cb).toArray = (#[Value.agg (enc x).toArray, Value.agg (enc y).toArray] ++ cb.toArray : Array Value) := by simp
    rw [e] at h
    refine Calls.mono h ?_
    rintro e w' ⟨v, rfl, ⟨rfl, hG⟩, _⟩
    exact ⟨rfl, hG.grow⟩) ha hlen
end Go.Proofs.YtjkpkbdoljjeiaaGreat
namespace Go.Proofs
open Go.Shelf
def YtjkpkbdoljjeiaaGreat.sortB_ren : Go.Shelf.Ren := ⟨fun | 6 => 43 | 15 => 60 | 14 => 59 | 28 => 88 | 29 => 89 | 20 => 80 | 21 => 81 | 22 => 82 | 23 => 83 | 24 => 84 | 25 => 85 | 26 => 86 | 27 => 87 | 46 => 94 | 47 => 95 | 48 => 96 | 49 => 97 | 50 => 98 | 57 => 115 | n => n, fun | 22 => 24 | 24 => 27 | 25 => 112 | 3 => 3 | 39 => 136 | 0 => 0 | 53 => 168 | 55 => 116 | 4 => 4 | 46 => 161 | 45 => 160 | 50 => 165 | 5 => 5 | 9 => 9 | 66 => 175 | 70 => 179 | 76 => 191 | 77 => 192 | n => n, fun | n => n⟩
theorem YtjkpkbdoljjeiaaGreat.sortB : Go.Proofs.SlLaysF0.n6 Tryz.prog YtjkpkbdoljjeiaaGreat.sortB_ren := {
  mixed := by kernel_rfl
  f6 := ⟨Tryz.f43.name, by decide, Tryz.func43.trans (congrArg some (by kernel_rfl))⟩
  f14 := ⟨Tryz.f59.name, by decide, Tryz.func59.trans (congrArg some (by kernel_rfl))⟩
  f15 := Tryz.func60.trans (congrArg some (by kernel_rfl))
  f20 := ⟨Tryz.f80.name, by decide, Tryz.func80.trans (congrArg some (by kernel_rfl))⟩
  f21 := ⟨Tryz.f81.name, by decide, Tryz.func81.trans (congrArg some (by kernel_rfl))⟩
  f22 := ⟨Tryz.f82.name, by decide, Tryz.func82.trans (congrArg some (by kernel_rfl))⟩
  f23 := ⟨Tryz.f83.name, by decide, Tryz.func83.trans (congrArg some (by kernel_rfl))⟩
  f24 := ⟨Tryz.f84.name, by decide, Tryz.func84.trans (congrArg some (by kernel_rfl))⟩
  f25 := ⟨Tryz.f85.name, by decide, Tryz.func85.trans (congrArg some (by kernel_rfl))⟩
  f26 := ⟨Tryz.f86.name, by decide, Tryz.func86.trans (congrArg some (by kernel_rfl))⟩
  f27 := ⟨Tryz.f87.name, by decide, Tryz.func87.trans (congrArg some (by kernel_rfl))⟩
  f28 := Tryz.func88.trans (congrArg some (by kernel_rfl))
  f29 := Tryz.func89.trans (congrArg some (by kernel_rfl))
  f46 := ⟨Tryz.f94.name, by decide, Tryz.func94.trans (congrArg some (by kernel_rfl))⟩
  f47 := Tryz.func95.trans (congrArg some (by kernel_rfl))
  f48 := Tryz.func96.trans (congrArg some (by kernel_rfl))
  f49 := ⟨Tryz.f97.name, by decide, Tryz.func97.trans (congrArg some (by kernel_rfl))⟩
  f50 := ⟨Tryz.f98.name, by decide, Tryz.func98.trans (congrArg some (by kernel_rfl))⟩
  f57 := ⟨Tryz.f115.name, by decide, Tryz.func115.trans (congrArg some (by kernel_rfl))⟩
  t0 := Tryz.underlying0
  a0 := Tryz.isAgg0
  z0 := Tryz.sizeOf0
  v0 := Tryz.zeroValue0
  t3 := Tryz.underlying3
  a3 := Tryz.isAgg3
  z3 := Tryz.sizeOf3
  v3 := Tryz.zeroValue3
  t4 := Tryz.underlying4
  a4 := Tryz.isAgg4
  z4 := Tryz.sizeOf4
  v4 := Tryz.zeroValue4
  t5 := Tryz.underlying5
  a5 := Tryz.isAgg5
  z5 := Tryz.sizeOf5
  v5 := Tryz.zeroValue5
  t9 := Tryz.underlying9
  a9 := Tryz.isAgg9
  z9 := Tryz.sizeOf9
  v9 := Tryz.zeroValue9
  t22 := Tryz.underlying24
  a22 := Tryz.isAgg24
  z22 := Tryz.sizeOf24
  v22 := Tryz.zeroValue24
  t25 := Tryz.underlying112
  a25 := Tryz.isAgg112
  z25 := Tryz.sizeOf112
  v25 := Tryz.zeroValue112
  t39 := Tryz.underlying136
  a39 := Tryz.isAgg136
  z39 := Tryz.sizeOf136
  v39 := Tryz.zeroValue136
  t45 := Tryz.underlying160
  a45 := Tryz.isAgg160
  z45 := Tryz.sizeOf160
  v45 := Tryz.zeroValue160
  t46 := Tryz.underlying161
  a46 := Tryz.isAgg161
  z46 := Tryz.sizeOf161
  v46 := Tryz.zeroValue161
  t50 := Tryz.underlying165
  a50 := Tryz.isAgg165
  z50 := Tryz.sizeOf165
  v50 := Tryz.zeroValue165
  t53 := Tryz.underlying168
  a53 := Tryz.isAgg168
  z53 := Tryz.sizeOf168
  v53 := Tryz.zeroValue168
  t55 := Tryz.underlying116
  a55 := Tryz.isAgg116
  z55 := Tryz.sizeOf116
  v55 := Tryz.zeroValue116
  t66 := Tryz.underlying175
  a66 := Tryz.isAgg175
  z66 := Tryz.sizeOf175
  v66 := Tryz.zeroValue175
  t70 := Tryz.underlying179
  a70 := Tryz.isAgg179
  z70 := Tryz.sizeOf179
  v70 := Tryz.zeroValue179
  t76 := Tryz.underlying191
  a76 := Tryz.isAgg191
  z76 := Tryz.sizeOf191
  v76 := Tryz.zeroValue191
  t77 := Tryz.underlying192
  a77 := Tryz.isAgg192
  z77 := Tryz.sizeOf192
  v77 := Tryz.zeroValue192 }
end Go.Proofs
namespace Go.Proofs.YtjkpkbdoljjeiaaGreat
open Go Go.RowKit Go.Proofs.Tryz

theorem or3_lt {a b c : Int} : or3 a b c < 0 ↔ a < 0 ∨ (a = 0 ∧ (b < 0 ∨ (b = 0 ∧ c < 0))) := by unfold or3; split <;> (try split) <;> omega
theorem cmp_lt {a b : Int} : cmpI3 a b < 0 ↔ a < b := by unfold cmpI3; split <;> (try split) <;> omega
theorem cmp_gt {a b : Int} : 0 < cmpI3 a b ↔ b < a := by unfold cmpI3; split <;> (try split) <;> omega
theorem cmp_eq {a b : Int} : cmpI3 a b = 0 ↔ a = b := by unfold cmpI3; split <;> (try split) <;> omega
theorem cmpB_lt {sg : Int} (hsg : sg = 1 ∨ sg = -1) {a b : Bid} : cmpB sg a b < 0 ↔ sg * a.r < sg * b.r ∨ (a.r = b.r ∧ (a.m < b.m ∨ (a.m = b.m ∧ a.p < b.p))) := by
  have h1 := @cmp_lt a.r b.r
  have h2 := @cmp_gt a.r b.r
  have h3 := @cmp_eq a.r b.r
  unfold cmpB
  rw [or3_lt, cmp_lt, cmp_eq, cmp_lt]
  rcases hsg with rfl | rfl <;> omega
theorem cmpB_swo {sg : Int} (hsg : sg = 1 ∨ sg = -1) : Go.Sort.SWO (ltOf (cmpB sg)) where
  irrefl x := by unfold ltOf; rw [decide_eq_false_iff_not, cmpB_lt hsg]; omega
  trans x y z h1 h2 := by
    unfold ltOf at *
    rw [decide_eq_true_eq, cmpB_lt hsg] at *
    rcases hsg with rfl | rfl <;> omega
  ntrans x y z h1 h2 := by
    unfold ltOf at *
    rw [decide_eq_false_iff_not, cmpB_lt hsg] at *
    rcases hsg with rfl | rfl <;> omega
theorem own43 : Own Tryz.prog 43 := ⟨Tryz.f43, func43, by kernel_rfl, by kernel_rfl⟩
theorem cloneB_c (l : List Bid) (al : Option Addr) (bl ol cl : Nat) (w0 : World) (hl : Sl encBid 4 w0 al bl ol l) (hll : l.length ≤ 1000000) (hpos : 0 < w0.heap.size) :
    CallsV Tryz.prog 41 [.slice al l.length cl] w0 (fun v w' => (∃ ao g cp, v = .slice ao (List.length l) cp ∧ Acc encBid 4 27 w0.heap.size w' ao g cp l) ∧ Ext w0 w') := by
 refine f_n func41 ?_
 refine go ?_
 refine t_nilS underlying24 rfl rfl rfl rfl ?_
 refine go ?_
 refine q_b (fun g4 => ?_) fun g4 => ?_
 ·
  refine go ?_
  refine f_1 results41 ?_
  have hl0 : l = [] := List.eq_nil_of_length_eq_zero (by
    rcases Nat.eq_zero_or_pos l.length with h | h
    · exact h
    · rw [hl.addr h] at g4; cases g4)
  exact ⟨⟨none, 0, 0, by rw [hl0]; rfl, by rw [hl0]; exact Acc.nil _ _ _ _ _ hpos (by omega)⟩, u_d⟩
 refine go ?_
 refine x_l fun bk6 w7 ebk6 sbk6 B8 u9 => ?_
 refine go ?_
 refine t_copyE (enc := encBid) (z := .agg #[.int .i64 0, .int .i64 0, .int .i64 0, .int .i64 0]) (bytes := 32) (k := 4) (ys := l) underlying24 (by kernel_rfl) rfl (by decide) (fun _ => rfl) (by intro x; simp [encBid, Value.oneCell']) rfl rfl rfl rfl B8 (hl.keep ((Upd.refl (fun _ => False) w0).nx u9) (fun _ h => h)) (by omega) (by decide) (fun ao1 g1 c1 w11 A13 u12 ge1 => ?_)
 have zu12 := u12.size
 refine go ?_
 refine f_1 results41 ?_
 obtain ⟨g9, ha9⟩ := Acc.lower (base' := w0.heap.size) A13 (by omega) hpos
 exact ⟨⟨ao1, g9, c1, rfl, ha9⟩, u_d⟩

theorem indexWB_c {α : Type} [Inhabited α] (enc : α → List Value) (hk : ∀ x, (enc x).length = 4) (p : α → Bool) (fv : FuncId) (caps : List Value) (xs : List α) (ao : Option Addr) (b o cap : Nat) (w0 : World) (ho : Own Tryz.prog fv) (hp : ∀ x ∈ xs, ∀ w, Ext w0 w → CallsV Tryz.prog fv ([.agg (enc x).toArray] ++ caps) w fun v w' => v = .bool (p x) ∧ Ext w w') (hs : Sl enc 4 w0 ao b o xs) (hl : xs.length ≤ 1000000) :
    CallsV Tryz.prog 35 [.slice ao xs.length cap, .func (.func fv) #[] (caps).toArray] w0 (fun v w' => (∃ n : Int, v = .int .i64 n ∧ ((n = -1 ∧ ∀ j, j < xs.length → p (nth xs j) = false) ∨ ∃ k : Nat, n = (k : Int) ∧ k < xs.length ∧ p (nth xs k) = true ∧ ∀ j, j < k → p (nth xs j) = false)) ∧ Ext w0 w') := by
 refine f_n func35 ?_
 refine go ?_
 refine x_l1 (fun _ => False) [0, 1, 7] (fun (k : Nat) => [(8, .int .i64 (k : Int))]) (fun k w => (k ≤ xs.length) ∧ (∀ j, j < k → p (nth xs j) = false)) (fun k => xs.length - k) 0 ⟨Nat.zero_le _, (fun j h => absurd h (Nat.not_lt_zero j))⟩ ?_
 rintro k w5 ⟨hle, hno⟩ u6 zu6 K4 hK4
 have E7 := Sc.mk ((Upd.refl (fun _ => False) w0).nx u6)
 refine go ?_
 refine q_p (fun g9 => ?_) fun g9 => ?_
 ·
  refine go ?_
  refine g_i k (hs.keep E7.u (fun _ h => h)) (fun _ => ?_)
  refine t_loadN (vs := enc (nth xs k)) isAgg27 sizeOf27 rfl rfl rfl ((hs.keep E7.u (fun _ h => h)).at_ k (by omega)) (hk _) (t_call (fs := []) (cs := caps) ho rfl rfl rfl rfl (hp (nth xs k) (nth_mem (by omega)) _ E7.u) (fun v14 w15 r17 => ?_))
  obtain ⟨rfl, u16⟩ := r17
  have zu16 := u16.size
  refine go ?_
  refine q_b (fun g16 => ?_) fun g16 => ?_
  ·
   refine go ?_
   refine f_1 results35 ?_
   exact ⟨⟨_, rfl, .inr ⟨k, rfl, by omega, g16, hno⟩⟩, u_d⟩
  refine go ?_
  exact hK4 (k + 1) ⟨(by omega), (fun j h => (Nat.lt_succ_iff_lt_or_eq.1 h).elim (hno j) (fun e => e ▸ g16))⟩
 refine go ?_
 refine f_1 results35 ?_
 exact ⟨⟨_, rfl, .inl ⟨rfl, fun j h => hno j (by omega)⟩⟩, u_d⟩

theorem deleteB_c (p : Bid → Bool) (fv : FuncId) (caps : List Value) (l : List Bid) (ao : Option Addr) (gb cap base : Nat) (w0 : World) (ho : Own Tryz.prog fv) (hp : ∀ x ∈ l, ∀ w, Upd (fun i => i = gb ∧ base ≤ i) w0 w → CallsV Tryz.prog fv ([.agg (encBid x).toArray] ++ caps) w fun v w' => v = .bool (p x) ∧ Ext w w') (ha : Acc encBid 4 27 base w0 ao gb cap l) (hl : l.length ≤ 1000000) (_hb : base ≤ w0.heap.size) :
    CallsV Tryz.prog 40 [.slice ao l.length cap, .func (.func fv) #[] (caps).toArray] w0 (fun v w' => (v = .slice ao (List.length (l.filter fun x => !p x)) cap ∧ Acc encBid 4 27 base w' ao gb cap (l.filter fun x => !p x)) ∧ Upd (fun i => i = gb ∧ base ≤ i) w0 w') := by
 have E0 := Sc.mk (Upd.refl (fun i => (i = gb ∧ base ≤ i)) w0)
 refine f_n func40 ?_
 refine go ?_
 refine x_c func35 rfl rfl (indexWB_c encBid (fun _ => rfl) p fv caps l ao gb 0 cap _ ho (fun x hx w u => hp x hx w (E0.u.nx u)) (ha.sl (fun _ => rfl)) hl) ?_
 rintro _ w4 ⟨⟨n, rfl, hn⟩, u5⟩ zu5
 refine go ?_
 refine q_p (fun g12 => ?_) fun g12 => ?_
 ·
  refine go ?_
  refine f_1 results40 ?_
  have D11 := (ha.keep u5 (fun _ h => h))
  have hfl : (l.filter fun x => !p x) = l := by
    have hn0 := fun j h => (hn.resolve_right (fun ⟨k, e, _⟩ => by omega)).2 j h
    rw [List.filter_eq_self]
    intro x hx
    obtain ⟨i, hi, rfl⟩ := List.mem_iff_getElem.1 hx
    have := hn0 i hi
    rw [nth_eq hi] at this
    simp [this]
  exact ⟨⟨by rw [hfl], by rw [hfl]; exact D11⟩, u_d⟩
 obtain ⟨k0, rfl, hk0, hpk, hno⟩ := hn.resolve_left (fun h => g12 h.1)
 have hbg := ha.ge (by omega)
 refine go ?_
 have D14 := (ha.keep u5 (fun _ h => h))
 refine x_l1 (fun i => (i = gb ∧ base ≤ i)) [0, 1] (fun (j : Nat) => [(5, .int .i64 ((kp p l j).length : Int)), (6, .int .i64 (j : Int))]) (fun j w => (j ≤ l.length) ∧ (Acc encBid 4 27 base w ao gb cap (dl p l j))) (fun j => l.length - j) (k0 + 1) ⟨(by omega), (by rw [dl_init hk0 hpk hno]; exact D14)⟩ ?_ (h0 := by exact ⟨(congrArg (fun z => some (Value.int .i64 z)) (by rw [kp_init hk0 hpk hno, List.length_take, Nat.min_eq_left (by omega)])), rfl, rfl, rfl, trivial⟩)
 rintro j w16 ⟨hj, hac⟩ u17 zu17 K15 hK15
 have lt_gb := hac.lt
 have hdl := dl_len (p := p) hj
 have hkp := kp_le (p := p) hj
 have hcap := hac.cap_le
 refine go ?_
 refine q_p (fun g19 => ?_) fun g19 => ?_
 ·
  have hjl : j < l.length := by omega
  refine go ?_
  refine g_i j (hac.sl (fun _ => rfl)) (fun _ => ?_)
  refine t_loadN (vs := [.int .i64 ((nth (dl p l j) j).p), .int .i64 ((nth (dl p l j) j).n), .int .i64 ((nth (dl p l j) j).r), .int .i64 ((nth (dl p l j) j).m)]) isAgg27 sizeOf27 rfl rfl rfl (((hac.sl (fun _ => rfl)).at_ j (by omega)).sub 0 4) rfl (t_same 25 (v := .agg #[.int .i64 ((nth l j).p), .int .i64 ((nth l j).n), .int .i64 ((nth l j).r), .int .i64 ((nth l j).m)]) rfl (by rw [dl_nth hjl]) ?_)
  refine x_n fun bk24 w25 ebk24 sbk24 B26 u27 => ?_
  refine x_s fun w29 sw29 B31 u30 => ?_
  refine go ?_
  refine t_call (fs := []) (cs := caps) ho rfl rfl rfl rfl (hp (nth l j) (nth_mem hjl) _ ((((E0.u.nx u5).next u17 (fun i hi h => by omega)).nx u27).next u30 (fun i hi h => by omega))) (fun v34 w35 r37 => ?_)
  obtain ⟨rfl, u36⟩ := r37
  have zu36 := u36.size
  refine go ?_
  refine q_b (fun g29 => ?_) fun g29 => ?_
  ·
   have hq : p (nth l j) = false := by simpa using g29
   refine go ?_
   have D40 := (((hac.keep u27 (fun _ h => h)).keep u30 (fun _hb => show ¬ (gb = bk24) by first | omega | assumption)).keep u36 (fun _ h => h))
   refine g_i ((kp p l j).length) (D40.sl (fun _ => rfl)) (fun _ => ?_)
   refine t_storeA (vs := [.int .i64 ((nth l j).p), .int .i64 ((nth l j).n), .int .i64 ((nth l j).r), .int .i64 ((nth l j).m)]) (j := (kp p l j).length) (o' := 0) (k := 4) (nth l j) (fun _ => rfl) sizeOf27 rfl rfl (by omega) rfl D40 (by first | omega | (simp only [List.length_set, eRuns_len]; omega)) rfl rfl (by decide) (by simp [Value.oneCell']) rfl (fun w42 R44 u43 => ?_)
   have zu43 := u43.size
   refine go ?_
   exact hK15 (j + 1) ⟨(by omega), (by rw [dl_yes hjl hq]; exact R44)⟩ (hs := by exact ⟨(congrArg (fun z => some (Value.int .i64 z)) (by first | (rw [kp_yes hjl hq]; simp) | rw [kp_no hjl hq])), rfl, rfl, rfl, trivial⟩)
  have hq : p (nth l j) = true := by simpa using g29
  refine go ?_
  have D46 := (((hac.keep u27 (fun _ h => h)).keep u30 (fun _hb => show ¬ (gb = bk24) by first | omega | assumption)).keep u36 (fun _ h => h))
  exact hK15 (j + 1) ⟨(by omega), (by rw [dl_no hjl hq]; exact D46)⟩ (hs := by exact ⟨(congrArg (fun z => some (Value.int .i64 z)) (by first | (rw [kp_yes hjl hq]; simp) | rw [kp_no hjl hq])), rfl, rfl, rfl, trivial⟩)
 refine go ?_
 refine t_sliceFrom ((kp p l j).length) underlying24 sizeOf27 rfl rfl rfl rfl rfl (by omega) (by omega) (t_clear (enc := encBid) (k := 4) (xs := (dl p l j)) underlying24 rfl zeroValue27 rfl (by decide) (fun _ => rfl) rfl rfl (by omega) (by omega) hac (fun w48 sw48 A50 u49 => ?_))
 have lt_gb := A50.lt
 refine go ?_
 refine t_sliceTo ((kp p l j).length) underlying24 sizeOf27 rfl rfl rfl rfl rfl (by omega) ?_
 refine go ?_
 refine f_1 results40 ?_
 obtain rfl : j = l.length := by omega
 rw [dl_end] at A50
 exact ⟨⟨by rw [subAddr0]; simp [kp], A50⟩, u_d⟩

theorem queue_c (sg : Int) (l : List Bid) (al : Option Addr) (bl ol cl : Nat) (p : Int) (w0 : World) (hsg : sg = 1 ∨ sg = -1) (hl : Sl encBid 4 w0 al bl ol l) (hll : l.length ≤ 1000000) (hok : ∀ x ∈ l, okBid x = true) (hp : 0 ≤ p ∧ p ≤ 1000000) (hpos : 0 < w0.heap.size) :
    CallsV Tryz.prog 20 [.agg #[.slice al l.length cl, .int .i64 sg], .int .i64 p] w0 (fun v w' => (∃ ys ao g cp, v = .slice ao (List.length ys) cp ∧ ys.Perm (l.filter fun x => trd sg x p) ∧ Asc (cmpB sg) ys ∧ Acc encBid 4 27 w0.heap.size w' ao g cp ys) ∧ Ext w0 w') := by
 refine f_n func20 ?_
 refine go ?_
 refine x_b fun bk2 w3 ebk2 sbk2 B4 u5 => ?_
 refine x_b fun bk7 w8 ebk7 sbk7 B9 u10 => ?_
 refine go ?_
 refine x_c func41 rfl rfl (cloneB_c l al bl ol cl _ (hl.keep (((Upd.refl (fun _ => False) w0).nx u5).nx u10) (fun _ h => h)) (by have := hll; omega) (by omega)) ?_
 rintro _ w15 ⟨⟨aoQ13, gQ13, cQ13, rfl, haQ13⟩, u16⟩ zu16
 have lt_gQ13 := haQ13.lt
 refine t_mkfunc (vs := []) (us := [.pointer (some ⟨bk2, 0, none⟩), .pointer (some ⟨bk7, 0, none⟩)]) rfl rfl rfl rfl ?_
 have B19 := ((B4.kx u10).kx u16)
 have B20 := (B9.kx u16)
 have hne1 := B19.lt
 have hne2 := B20.lt
 refine x_c func40 rfl rfl (deleteB_c (fun x => !trd sg x p) 42 [.pointer (some ⟨bk2, 0, none⟩), .pointer (some ⟨bk7, 0, none⟩)] l aoQ13 gQ13 cQ13 w8.heap.size _ own42 (fun x hx w u => queue1_c sg al l.length cl p x bk2 bk7 w hsg (okBid_ok (hok x hx)).2.2.1 hp (B19.keep u (by omega)) (B20.keep u (by omega))) haQ13 hll (by omega)) ?_
 rintro _ w23 ⟨⟨rfl, haQ21⟩, u24⟩ zu24
 have lt_gQ13 := haQ21.lt
 refine go ?_
 refine t_mkfunc (vs := []) (us := [.pointer (some ⟨bk2, 0, none⟩)]) rfl rfl rfl rfl ?_
 have B28 := (B19.keep u24 (by omega))
 have hne3 := B28.lt
 have hfl6 := List.length_filter_le (fun x => !((fun x => !trd sg x p) x)) l
 refine t_call own43 rfl rfl rfl rfl (sort_cv sortB 4 (by decide) isAgg27 sizeOf27 encBid (fun _ => rfl) (by intro x; simp [encBid, Value.oneCell']) (cmpB sg) (cmpB_swo hsg) 44 own44 [.pointer (some ⟨bk2, 0, none⟩)] 27 w8.heap.size aoQ13 gQ13 cQ13 (l.filter fun x => !((fun x => !trd sg x p) x)) _ (fun h0 W u x y => queue2_c sg al l.length cl x y bk2 W hsg (B28.keep u (by have := haQ21.ge h0; omega))) haQ21 (by omega)) (fun v29 w30 r32 => ?_)
 obtain ⟨ys, hperm, hasc, hays, u31, rfl⟩ := r32
 have zu31 := u31.size
 have hyl := hperm.length_eq
 have lt_gQ13 := hays.lt
 refine go ?_
 refine f_1 results20 ?_
 obtain ⟨g9, ha9⟩ := Acc.lower (base' := w0.heap.size) hays (by omega) hpos
 exact ⟨⟨ys, _, g9, _, by rw [hyl], by simpa using hperm, hasc, ha9⟩, u_d⟩

end Go.Proofs.YtjkpkbdoljjeiaaGreat
