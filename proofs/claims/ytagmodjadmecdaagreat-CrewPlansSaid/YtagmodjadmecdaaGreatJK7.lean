/-
  Part 7 of the proof: contracts and plain laws. Conditions: none.
-/
import Derived.Test.YtagmodjadmecdaaGreatJK6
namespace Go.Proofs.YtagmodjadmecdaaGreat
open Go Go.RowKit
theorem lay_get : ∀ (vs cs : List Value) (i q : Nat), i + vs.length ≤ cs.length → (lay cs i vs)[q]? = if i ≤ q ∧ q < i + vs.length then vs[q - i]? else cs[q]?
  | [], cs, i, q, _ => by rw [if_neg (by simp only [List.length_nil]; omega)]; rfl
  | v :: vs, cs, i, q, h => by
    have hl : i < cs.length := by simp at h; omega
    show (lay (cs.set i v) (i + 1) vs)[q]? = _
    rw [lay_get vs (cs.set i v) (i + 1) q (by simp at h ⊢; omega)]
    by_cases h1 : q = i
    · subst h1
      rw [if_neg (by omega), if_pos (by simp), List.getElem?_set_self hl]
      simp
    · by_cases h2 : i + 1 ≤ q ∧ q < i + 1 + vs.length
      · rw [if_pos h2, if_pos (by simp; omega), show q - i = (q - (i + 1)) + 1 by omega]
        rfl
      · rw [if_neg h2, if_neg (by simp; omega), List.getElem?_set_ne (by omega)]
structure Wr {α : Type} [Inhabited α] (enc : α → List Value) (k : Nat) (e : TypeId) (w : World) (g : Nat) (xs : List α) : Prop where
  at_ : 0 < xs.length → ∃ cur : Array Value, w.heap[g]? = some (.cells cur e (0, 0)) ∧ xs.length * k ≤ cur.size ∧ ∀ i, i < xs.length → ∀ (r : Nat) (v : Value), (enc (nth xs i))[r]? = some v → cur[i * k + r]? = some v
section
variable {α : Type} [Inhabited α] {enc : α → List Value} {k : Nat} {e : TypeId} {w w' : World} {g : Nat} {xs : List α}
theorem Acc.wr {base : Nat} {ao : Option Addr} {cap : Nat} (h : Acc enc k e base w ao g cap xs) (hk : ∀ x, (enc x).length = k) : Wr enc k e w g xs := ⟨fun hp => by
  rcases h.at_ with ⟨_, h1, _⟩ | ⟨_, _, cur, hc, hl, _, hsz, htk⟩
  · subst h1; simp at hp
  · refine ⟨cur, hc, by rw [hsz]; exact Nat.mul_le_mul_right k hl, fun i hi r v hv => ?_⟩
    have h1 := flatMap_at hk xs i r v hi hv
    rw [← htk, List.getElem?_take] at h1
    split at h1
    · simpa using h1
    · cases h1⟩
theorem Wr.lt (h : Wr enc k e w g xs) (hp : 0 < xs.length) : g < w.heap.size := by
  obtain ⟨cur, hc, _⟩ := h.at_ hp
  exact (Array.getElem?_eq_some_iff.1 hc).1
theorem Wr.keep {S : Nat → Prop} (h : Wr enc k e w g xs) (u : Upd S w w') (hn : 0 < xs.length → ¬ S g) : Wr enc k e w' g xs := ⟨fun hp => by
  obtain ⟨cur, hc, hr⟩ := h.at_ hp
  exact ⟨cur, (u.block g (h.lt hp) (hn hp)).trans hc, hr⟩⟩
theorem Wr.sl {ao : Option Addr} (h : Wr enc k e w g xs) (ha : 0 < xs.length → ao = some ⟨g, 0, none⟩) : Sl enc k w ao g 0 xs :=
  ⟨ha, h.lt, fun i hi j v hv => by
    obtain ⟨cur, hc, hs, hr⟩ := h.at_ (by omega)
    have hB : Blk w g e cur.toList := by simpa [Blk] using hc
    rw [Nat.zero_add]
    exact hB.get (by simpa using hr i hi j v hv)⟩
end
section
variable {rd : Option Nat} {P : Program} {ops : Array Oper} {Q : Exit → Act → World → Prop} {N : Nat} {ds : List Deferred} {rest : List Oper} {L : Slots} {w : World}
variable {ty : TypeId} {pos : String} {aft : Array Edge} {gd : Option (Nat × Bool)}
end
end Go.Proofs.YtagmodjadmecdaaGreat
namespace Go.Proofs.YtagmodjadmecdaaGreat
open Go Go.RowKit
theorem Acc.ofWr {α : Type} [Inhabited α] {enc : α → List Value} {k : Nat} {e : TypeId} {base : Nat} {w w' : World} {ao : Option Addr} {g cap : Nat} {xs ys : List α} (h : Acc enc k e base w ao g cap xs) (hk : ∀ x, (enc x).length = k) (hp : 0 < xs.length)
    (hw : Wr enc k e w' g ys) (hl : ys.length = xs.length) (hsz : ∀ cur : Array Value, w.heap[g]? = some (.cells cur e (0, 0)) → ∃ cur' : Array Value, w'.heap[g]? = some (.cells cur' e (0, 0)) ∧ cur'.size = cur.size) : Acc enc k e base w' ao g cap ys := by
  rcases h.at_ with ⟨_, h1, _⟩ | ⟨h1, h2, cur, h3, h4, h5, h6, _⟩
  · subst h1; simp at hp
  · obtain ⟨cur', hc, hs⟩ := hsz cur h3
    obtain ⟨cur2, hc2, hs2, hr⟩ := hw.at_ (by omega)
    rw [hc] at hc2
    injection hc2 with hc2
    injection hc2 with hc2
    subst hc2
    refine ⟨lt_of_block hc, .inr ⟨h1, h2, cur', hc, by omega, h5, by rw [hs, h6], ?_⟩⟩
    refine List.ext_getElem? fun q => ?_
    by_cases hq : q < ys.length * k
    · have hk0 : 0 < k := by
        rcases Nat.eq_zero_or_pos k with h | h
        · subst h; simp at hq
        · exact h
      have hi : q / k < ys.length := (Nat.div_lt_iff_lt_mul hk0).2 hq
      have hqr : q / k * k + q % k = q := by rw [Nat.mul_comm]; exact Nat.div_add_mod q k
      have hlt : q % k < (enc (nth ys (q / k))).length := by rw [hk]; exact Nat.mod_lt _ hk0
      have hv := List.getElem?_eq_getElem hlt
      have e1 := hr (q / k) hi (q % k) _ hv
      have e2 := flatMap_at hk ys (q / k) (q % k) _ hi hv
      rw [hqr] at e1 e2
      rw [List.getElem?_take, if_pos hq, e2]
      simpa using e1
    · rw [List.getElem?_eq_none (by rw [List.length_take]; omega), List.getElem?_eq_none (by rw [flatMap_len hk]; omega)]
theorem wr_set {α : Type} [Inhabited α] {enc : α → List Value} {k : Nat} {e : TypeId} {w w' : World} {g j o' off n : Nat} {xs : List α} {vs : List Value} {x' : α} {cur : List Value} (hk : ∀ x, (enc x).length = k) (hw : Wr enc k e w g xs) (hj : j < xs.length) (hB : Blk w g e cur) (hB' : Blk w' g e (lay cur off vs)) (hn : vs.length = n) (hl : o' + n ≤ k) (hx' : enc x' = lay (enc (nth xs j)) o' vs) (hoff : off = j * k + o') : Wr enc k e w' g (xs.set j x') := by
  subst hoff
  obtain ⟨cur2, hcur, hsz, hr⟩ := hw.at_ (by omega)
  have e1 : cur2 = cur.toArray := by
    have : w.heap[g]? = some (.cells cur.toArray e (0, 0)) := hB
    rw [hcur] at this
    injection this with this
    injection this with this
  subst e1
  have hjk : (j + 1) * k ≤ xs.length * k := Nat.mul_le_mul_right k hj
  rw [Nat.add_mul, Nat.one_mul] at hjk
  rw [List.size_toArray] at hsz
  have hle : j * k + o' + n ≤ cur.length := by omega
  refine ⟨fun hp => ⟨(lay cur (j * k + o') vs).toArray, hB', by rw [List.length_set, List.size_toArray, lay_length]; exact hsz, fun i hi r z hz => ?_⟩⟩
  rw [List.length_set] at hi
  rw [List.getElem?_toArray, lay_get _ _ _ _ (by rw [hn]; exact hle)]
  by_cases hij : i = j
  · subst hij
    rw [show nth (xs.set i x') i = x' by simp [nth, List.getD_eq_getElem?_getD, hi]] at hz
    rw [hx', lay_get _ _ _ _ (by rw [hn, hk]; exact hl)] at hz
    by_cases hc1 : o' ≤ r ∧ r < o' + vs.length
    · rw [if_pos hc1] at hz
      rw [if_pos (by omega), show i * k + r - (i * k + o') = r - o' by omega]; exact hz
    · rw [if_neg hc1] at hz
      rw [if_neg (by omega)]
      have := hr i hi r z hz
      simpa using this
  · rw [show nth (xs.set j x') i = nth xs i by simp [nth, List.getD_eq_getElem?_getD, List.getElem?_set_ne (Ne.symm hij)]] at hz
    have hrk : r < k := by
      have := (List.getElem?_eq_some_iff.1 hz).1
      rwa [hk] at this
    have := hr i hi r z hz
    rw [if_neg ?_]
    · simpa using this
    · intro hcc
      rcases Nat.lt_or_gt_of_ne hij with h1 | h1
      · have : (i + 1) * k ≤ j * k := Nat.mul_le_mul_right k h1
        rw [Nat.add_mul, Nat.one_mul] at this
        omega
      · have : (j + 1) * k ≤ i * k := Nat.mul_le_mul_right k h1
        rw [Nat.add_mul, Nat.one_mul] at this
        omega
section
variable {rd : Option Nat} {P : Program} {ops : Array Oper} {Q : Exit → Act → World → Prop} {N : Nat} {ds : List Deferred} {rest : List Oper} {L : Slots} {w : World}
variable {ty : TypeId} {pos : String} {aft : Array Edge} {gd : Option (Nat × Bool)}
theorem t_storeA {α : Type} [Inhabited α] {enc : α → List Value} {k : Nat} {u e : TypeId} {x y : Operand} {base : Nat} {ao : Option Addr} {g cap j o' off n : Nat} {xs : List α} {vs : List Value} {v : Value} (x' : α) (hk : ∀ x, (enc x).length = k) (hs : ∀ w, (sizeOf u).run P w = .ok n w) (hg : grd ops L gd = true)
    (hx : ev L x = some (.pointer (some ⟨g, off, none⟩))) (hoff : off = j * k + o') (hy : ev L y = some v) (hw : Acc enc k e base w ao g cap xs) (hj : j < xs.length) (hc : v.cells = vs.toArray) (hn : vs.length = n) (hl : o' + n ≤ k) (hv : ∀ v ∈ vs, v.oneCell' = true) (hx' : enc x' = lay (enc (nth xs j)) o' vs)
    (h : ∀ w', Acc enc k e base w' ao g cap (xs.set j x') → Upd (· = g) w w' → WL rd P ops Q N ds rest L w') :
    WL rd P ops Q N ds (⟨none, .store u x y, ty, pos, aft, gd⟩ :: rest) L w := by
  have hwr := hw.wr hk
  obtain ⟨cur, hcur, hsz, hr⟩ := hwr.at_ (by omega)
  have hB : Blk w g e cur.toList := by simpa [Blk] using hcur
  have hjk : (j + 1) * k ≤ xs.length * k := Nat.mul_le_mul_right k hj
  rw [Nat.add_mul, Nat.one_mul] at hjk
  have hle : off + n ≤ cur.toList.length := by rw [Array.length_toList, hoff]; omega
  refine t_store (b := g) (t := e) hs hg hx hy hB hc hn hle hv fun w' hsize hB' hu => ?_
  refine h w' (hw.ofWr hk (by omega) (ys := xs.set j x') ?_ (by rw [List.length_set]) fun c2 hc2 => ?_) hu
  · exact wr_set hk hwr hj hB hB' hn hl hx' hoff
  · rw [hcur] at hc2
    injection hc2 with hc2
    injection hc2 with hc2
    subst hc2
    exact ⟨(lay cur.toList off vs).toArray, hB', by rw [List.size_toArray, lay_length, Array.length_toList]⟩
end
end Go.Proofs.YtagmodjadmecdaaGreat
namespace Go.Proofs.YtagmodjadmecdaaGreat
open Go Go.RowKit Tryz

structure Tm where
  nums : List Int
  pl : Int
  ms : List Mb
instance : Inhabited Tm := ⟨⟨default, default, default⟩⟩
def canM (r : Rul) (x : Leg) (m : Mb) : Bool := canB r m.f m.u m.ts x
def aftM (x : Leg) (m : Mb) : Mb := ⟨m.f, m.u, m.ps, canT m.f m.u m.ts x⟩
def pltI (m : Mb) (x : Leg) : Int := if pltP m.ps x = true then 1 else 0
theorem pltI_rng (m : Mb) (x : Leg) : 0 ≤ pltI m x ∧ pltI m x ≤ 1 := by unfold pltI; split <;> decide
def teamsP (r : Rul) (x : Leg) : Nat → Nat → List Int → Int → List Mb → List Tm
  | 0, _, nums, pl, ms => if x.p ≤ pl then [⟨nums, pl, ms⟩] else []
  | k + 1, i, nums, pl, ms => (List.range' i (ms.length - i)).flatMap fun i => if canM r x (nth ms i) = true then teamsP r x k (i + 1) (nums ++ [(i : Int)]) (pl + pltI (nth ms i) x) (ms.set i (aftM x (nth ms i))) else []
theorem teams_end {r : Rul} {x : Leg} {k i : Nat} {nums : List Int} {pl : Int} {ms : List Mb} (h : ms.length ≤ i) : teamsP r x (k + 1) i nums pl ms = [] := by
  unfold teamsP; rw [Nat.sub_eq_zero_of_le h]; rfl
theorem teams_step {r : Rul} {x : Leg} {k i : Nat} {nums : List Int} {pl : Int} {ms : List Mb} (h : i < ms.length) : teamsP r x (k + 1) i nums pl ms = (if canM r x (nth ms i) = true then teamsP r x k (i + 1) (nums ++ [(i : Int)]) (pl + pltI (nth ms i) x) (ms.set i (aftM x (nth ms i))) else []) ++ teamsP r x (k + 1) (i + 1) nums pl ms := by
  rw [teamsP, show ms.length - i = (ms.length - (i + 1)) + 1 by omega, List.range'_succ, List.flatMap_cons, teamsP]
theorem teams_step' {r : Rul} {x : Leg} {need i : Nat} {nums : List Int} {pl : Int} {ms : List Mb} (hn : 0 < need) (h : i < ms.length) : teamsP r x need i nums pl ms = (if canM r x (nth ms i) = true then teamsP r x (need - 1) (i + 1) (nums ++ [(i : Int)]) (pl + pltI (nth ms i) x) (ms.set i (aftM x (nth ms i))) else []) ++ teamsP r x need (i + 1) nums pl ms := by
  cases need with
  | zero => cases hn
  | succ k => exact teams_step h
theorem teams_end' {r : Rul} {x : Leg} {need i : Nat} {nums : List Int} {pl : Int} {ms : List Mb} (hn : 0 < need) (h : ms.length ≤ i) : teamsP r x need i nums pl ms = [] := by
  cases need with
  | zero => cases hn
  | succ k => exact teams_end h
theorem nth_map' {α β : Type} [Inhabited α] [Inhabited β] (f : α → β) {l : List α} {i : Nat} (h : i < l.length) : nth (l.map f) i = f (nth l i) := by
  rw [nth_eq h, nth_eq (by simpa using h)]; simp
theorem set_self {α : Type} [Inhabited α] {l : List α} {i : Nat} (h : i < l.length) : l.set i (nth l i) = l := by rw [nth_eq h]; exact List.set_getElem_self h
theorem canB_win {r : Rul} {f u : Int} {l : List Sp} {x : Leg} (h : canB r f u l x = true) : winM f u x = true := by unfold canB at h; exact (Bool.and_eq_true_iff.1 h).1
structure HT where
  pre : List Tm
  nums : List Int
  ao : Option Addr
  g : Nat
  cap : Nat
  pl : Int
  hm : List HM
  w : World
def encHT (x : HT) : Value := .agg #[.slice x.ao x.nums.length x.cap, .int .i64 x.pl]
def HT.tm (x : HT) : Tm := ⟨x.nums, x.pl, x.hm.map HM.mb⟩
structure RowC (F : Nat → Prop) (pb c : Nat) (r : Rul) (am : Option Addr) (mb cm n : Nat) (ms : List HM) (w : World) : Prop where
  row : RowM F pb w am mb cm ms
  blk : Blk w c 144 [.int .i64 r.rest, .int .i64 r.span, .int .i64 r.work, .int .i64 r.week, .int .i64 r.ww, .slice am n cm]
  len : ms.length = n
theorem RowC.ext {F : Nat → Prop} {pb c : Nat} {r : Rul} {am : Option Addr} {mb cm n : Nat} {ms : List HM} {w w' : World} (h : RowC F pb c r am mb cm n ms w) (u : Ext w w') : RowC F pb c r am mb cm n ms w' := ⟨h.row.ext u, h.blk.kx u, h.len⟩
theorem RowC.turned {F : Nat → Prop} {pb c : Nat} {r : Rul} {am : Option Addr} {mb cm n l : Nat} : Turned l (RowC F pb c r am mb cm n) := fun ms W W' h hl u => ⟨RowM.turned ms W W' h.row hl u, h.blk.keep u (h.blk.notLoop hl), h.len⟩
theorem RowC.mono {F G : Nat → Prop} {pb c : Nat} {r : Rul} {am : Option Addr} {mb cm n : Nat} {ms : List HM} {w : World} (h : RowC F pb c r am mb cm n ms w) (hG : ∀ m ∈ ms, pb ≤ m.gt → G m.gt → F m.gt) : RowC G pb c r am mb cm n ms w := ⟨h.row.mono hG, h.blk, h.len⟩
theorem RowM.pos {F : Nat → Prop} {pb : Nat} {w : World} {am : Option Addr} {mb cm : Nat} {ms : List HM} (h : RowM F pb w am mb cm ms) (hp : 0 < ms.length) : pb ≤ mb := by
  rcases h.acc.at_ with ⟨_, h1, _⟩ | ⟨_, h1, _⟩
  · rw [h1] at hp; cases hp
  · exact h1
theorem Acc.someL {α : Type} {enc : α → List Value} {k : Nat} {e : TypeId} {base base' : Nat} {w : World} {a : Addr} {g cap : Nat} {xs : List α} (h : Acc enc k e base w (some a) g cap xs) (hb : base' ≤ base) : Acc enc k e base' w (some a) g cap xs :=
  ⟨h.lt, h.at_.elim (fun q => by cases q.1) (fun q => .inr ⟨q.1, Nat.le_trans hb q.2.1, q.2.2⟩)⟩
abbrev MB (mb pb : Nat) (i : Nat) : Prop := i = mb ∧ pb ≤ i
theorem RowC.set {F : Nat → Prop} {pb c : Nat} {r : Rul} {am : Option Addr} {mb cm n i : Nat} {ms : List HM} {m : HM} {w w' : World} (h : RowC F pb c r am mb cm n ms w) (hm : pb ≤ mb → F mb) (u : Upd (· = mb) w w') (hpm : pb ≤ mb) (ha : Acc encHM 5 131 pb w' am mb cm (ms.set i m)) (hn : MbM F pb w m) (hc : c ≠ mb) : RowC F pb c r am mb cm n (ms.set i m) w' :=
  ⟨h.row.set hm (u.mono fun i e => ⟨e, by omega⟩) ha hn, h.blk.keep u hc, by rw [List.length_set]; exact h.len⟩
def FX (F : Nat → Prop) (l : Nat) (i : Nat) : Prop := F i ∨ i = l
theorem TP.fx {F : Nat → Prop} {pb l i : Nat} {w : World} (h : TP F pb w i) : TP (FX F l) pb w i := h.elim (fun h => .inl (.inl h)) .inr
theorem TP.unfx {F : Nat → Prop} {pb l i : Nat} {w : World} (h : TP (FX F l) pb w i) (hl : i ≠ l) : TP F pb w i := h.elim (fun h => h.elim .inl (fun e => absurd e hl)) .inr
theorem MbM.fx {F : Nat → Prop} {pb l : Nat} {w : World} {m : HM} (h : MbM F pb w m) (hl : pb ≤ m.gt → m.gt ≠ l) : MbM (FX F l) pb w m := ⟨h.hp, h.hb, h.hpl, h.ht, fun hb hf => hf.elim (h.hn hb) (hl hb), h.srt, h.ok⟩
theorem MbM.unfx {F : Nat → Prop} {pb l : Nat} {w : World} {m : HM} (h : MbM (FX F l) pb w m) : MbM F pb w m := ⟨h.hp, h.hb, h.hpl, h.ht, fun hb hf => h.hn hb (.inl hf), h.srt, h.ok⟩
abbrev F0 : Nat → Prop := fun _ => False
theorem MbM.f0 {F : Nat → Prop} {pb : Nat} {w : World} {m : HM} (h : MbM F pb w m) : MbM F0 pb w m := ⟨h.hp, h.hb, h.hpl, h.ht, fun _ hf => hf, h.srt, h.ok⟩
theorem MbM.rowT {F : Nat → Prop} {pb mb cm : Nat} {am : Option Addr} {ms : List HM} {w w' : World} {m : HM} (h : MbM F pb w m) (ha : Acc encHM 5 131 pb w am mb cm ms) (u : Upd (MB mb pb) w w') : MbM F pb w' m :=
  h.upd u (fun hp hq => by have h1 := h.hb hp; have h2 := hq.2; omega) (fun hb q => h.ht.neAcc ha (by decide) hb (q.1 ▸ q.2) q.1)
theorem RowC.toF {F G : Nat → Prop} {pb c : Nat} {r : Rul} {am am' : Option Addr} {mb cm n mb' cm' : Nat} {ms : List HM} {w w' : World} (h : RowC F pb c r am mb cm n ms w) (g : RowM G pb w' am' mb' cm' ms) : RowC G pb c r am mb cm n ms w :=
  ⟨⟨h.row.acc, fun m hm => let q := h.row.mem m hm; ⟨q.hp, q.hb, q.hpl, q.ht, (g.mem m hm).hn, q.srt, q.ok⟩⟩, h.blk, h.len⟩
structure YT (F : Nat → Prop) (pb c : Nat) (r : Rul) (am : Option Addr) (mb cm n B D : Nat) (C : List Tm → World → Prop) (x : HT) (W : World) : Prop where
  hc : C x.pre W
  row : RowC F pb c r am mb cm n x.hm W
  num : Acc encI 1 3 pb W x.ao x.g x.cap x.nums
  nf : pb ≤ x.g → ¬ F x.g
  len : ∀ m ∈ x.hm, m.ts.length ≤ B
  n3 : x.nums.length ≤ 3
  hD : D + 1 < W.heap.size
  upd : Upd (· = D + 1) x.w W
structure ZT (F : Nat → Prop) (pb c : Nat) (r : Rul) (am : Option Addr) (mb cm n : Nat) (C : List Tm → World → Prop) (x : HT) (W : World) : Prop where
  hc : C (x.pre ++ [x.tm]) W
  row : RowC F pb c r am mb cm n x.hm W
  upd : Upd (TP F pb x.w) x.w W
structure FT (F : Nat → Prop) (pb c : Nat) (r : Rul) (am : Option Addr) (mb cm n : Nat) (Cf : List Tm × Tm → World → Prop) (φ : List HM → List HM) (x : HT) (W : World) : Prop where
  hc : Cf (x.pre, x.tm) W
  row : RowC F0 pb c r am mb cm n (φ x.hm) W
  upd : Upd (TP F pb x.w) x.w W
def EndT (ts : List Tm) (Cf : List Tm × Tm → World → Prop) (W : World) : Prop := ∃ pre v post, ts = pre ++ v :: post ∧ Cf (pre, v) W
theorem YT.turned {F : Nat → Prop} {pb c : Nat} {r : Rul} {am : Option Addr} {mb cm n B D : Nat} {C : List Tm → World → Prop} (hC : Turned (D + 1) C) : Turned (D + 1) (YT F pb c r am mb cm n B D C) := fun _x _W _W' h hl u =>
  ⟨hC _ _ _ h.hc hl u, RowC.turned _ _ _ h.row hl u, h.num.keep u (h.num.notLoop hl), h.nf, h.len, h.n3, Nat.lt_of_lt_of_le h.hD u.size, h.upd.trans u⟩
theorem tp_turn {F : Nat → Prop} {pb l : Nat} {w W W' : World} (h : Upd (TP F pb w) w W) (hl : F l) (u : Upd (· = l) W W') : Upd (TP F pb w) w W' := h.next u (fun _i _ e => .inl (e ▸ hl))
theorem ZT.turned {F : Nat → Prop} {pb c : Nat} {r : Rul} {am : Option Addr} {mb cm n l : Nat} {C : List Tm → World → Prop} (hC : Turned l C) (hT : F l) : Turned l (ZT F pb c r am mb cm n C) := fun _x _W _W' h hl u =>
  ⟨hC _ _ _ h.hc hl u, RowC.turned _ _ _ h.row hl u, tp_turn h.upd hT u⟩
theorem FT.turned {F : Nat → Prop} {pb c : Nat} {r : Rul} {am : Option Addr} {mb cm n l : Nat} {Cf : List Tm × Tm → World → Prop} {φ : List HM → List HM} (hC : Turned l Cf) (hT : F l) : Turned l (FT F pb c r am mb cm n Cf φ) := fun _x _W _W' h hl u =>
  ⟨hC _ _ _ h.hc hl u, RowC.turned _ _ _ h.row hl u, tp_turn h.upd hT u⟩
def Bent {β : Type} (B : Nat) (C : β → World → Prop) : Prop := ∀ x W W' (S : Nat → Prop), C x W → Upd S W W' → (∀ i, S i → B ≤ i ∧ ∀ c t f, W.heap[i]? ≠ some (.cells c t f)) → C x W'
theorem Bent.mono {β : Type} {B B' : Nat} {C : β → World → Prop} (h : Bent B C) (hb : B ≤ B') : Bent B' C := fun x W W' S hc u hS => h x W W' S hc u (fun i hi => ⟨Nat.le_trans hb (hS i hi).1, (hS i hi).2⟩)
theorem Bent.turned {β : Type} {B l : Nat} {C : β → World → Prop} (h : Bent B C) (hl : B ≤ l) : Turned l C := fun x W W' hc hr u => h x W W' _ hc u (fun i e => ⟨e ▸ hl, fun c t f q => by obtain ⟨r, hr⟩ := hr; rw [e, hr] at q; cases q⟩)
theorem Marks.bent {base : Nat} {ds : List Deferred} {w : World} (h : Marks base ds w) : ∀ i, (∃ d ∈ ds, d = mark i) → base ≤ i ∧ ∀ c t f, w.heap[i]? ≠ some (.cells c t f) := by
  refine fun i hi => ⟨?_, fun c t f q => h.notCells q hi⟩
  obtain ⟨d, hd, e⟩ := hi
  induction ds with
  | nil => cases hd
  | cons d' ds ih =>
    rcases List.mem_cons.1 hd with q | q
    · obtain ⟨⟨D, h1, h2, _⟩, _⟩ := h
      rw [← q, e] at h1; injection h1 with h1; injection h1 with h1; omega
    · exact ih h.2 q
theorem RowC.bent {F : Nat → Prop} {pb c : Nat} {r : Rul} {am : Option Addr} {mb cm n B : Nat} (hB : pb ≤ B) : Bent B (RowC F pb c r am mb cm n) := fun ms W W' S h u hS => by
  have key : ∀ {α : Type} {enc : α → List Value} {k e : Nat} {ao : Option Addr} {g cap : Nat} {xs : List α}, Acc enc k e pb W ao g cap xs → pb ≤ g → ¬ S g := fun ha hb hs => by
    rcases ha.at_ with ⟨_, _, _, h1⟩ | ⟨_, _, cur, h1, _⟩
    · omega
    · exact (hS _ hs).2 _ _ _ h1
  refine ⟨⟨h.row.acc.keep u (key h.row.acc), fun m hm => ?_⟩, h.blk.keep u (fun hs => (hS _ hs).2 _ _ _ h.blk), h.len⟩
  have q := h.row.mem m hm
  exact q.upd u (fun hp hs => by have h1 := q.hb hp; have h2 := (hS _ hs).1; omega) (key q.ht)
structure TmP (P : Program) (r : Rul) (x : Leg) (pb c : Nat) (am : Option Addr) (mb cm n B : Nat) (F : Nat → Prop) (l D : Nat) (C : List Tm → World → Prop) (Cf : List Tm × Tm → World → Prop) (R Rf : World → Prop) (φ : List HM → List HM) (b7 b5 b6 b4 need i0 : Nat) (nums : List Int) (an : Option Addr) (gn cn : Nat) (pl : Int) (ms : List HM) (w0 : World) : Prop where
  hr : okRul r = true
  hx : okLeg x = true
  hC : ∀ pre W W', C pre W → Upd (MB mb pb) W W' → C pre W'
  hCf : ∀ p W W', Cf p W → Upd (MB mb pb) W W' → Cf p W'
  hCt : Bent w0.heap.size C
  hCft : Bent w0.heap.size Cf
  hH : HandsL P l D encHT (YT F pb c r am mb cm n B D C) (ZT F pb c r am mb cm n C) (FT F pb c r am mb cm n Cf φ) R Rf
  h7 : Blk w0 b7 166 [.slice an nums.length cn, .int .i64 pl]
  h5 : Blk w0 b5 68 (encLeg x)
  h6 : Blk w0 b6 3 [.int .i64 (i0 : Int)]
  h4 : Blk w0 b4 117 [.pointer (some ⟨c, 0, none⟩)]
  row : RowC F pb c r am mb cm n ms w0
  num : Acc encI 1 3 pb w0 an gn cn nums
  hng : pb ≤ gn → ¬ F gn
  hF : ∀ i, F i → pb ≤ i ∧ i < w0.heap.size
  n7 : ¬ F b7
  n5 : ¬ F b5
  n4 : ¬ F b4
  nc : ¬ F c
  hFl : F l
  hFm : pb ≤ mb → F mb
  hl : l = D + 1
  hD : D + 1 < w0.heap.size
  hpb : 0 < pb ∧ pb ≤ D
  hnd : (nums.length : Int) + need = x.h
  hB : ∀ m ∈ ms, m.ts.length + need ≤ B
  hB9 : B ≤ 90
  hn : n ≤ 6
  hpl : 0 ≤ pl ∧ pl ≤ nums.length
  c0 : C [] w0
  r0 : R w0
  hφl : ∀ ms, (φ ms).length = ms.length
  hφ : ∀ ms i m, i0 ≤ i → φ (ms.set i m) = (φ ms).set i m
def TmQ (r : Rul) (x : Leg) (pb c : Nat) (am : Option Addr) (mb cm n : Nat) (F : Nat → Prop) (C : List Tm → World → Prop) (Cf : List Tm × Tm → World → Prop) (R Rf : World → Prop) (φ : List HM → List HM) (need i0 : Nat) (nums : List Int) (pl : Int) (ms : List HM) (w0 w' : World) : Prop :=
  ((C (teamsP r x need i0 nums pl (ms.map HM.mb)) w' ∧ R w' ∧ RowC F pb c r am mb cm n ms w') ∨ (EndT (teamsP r x need i0 nums pl (ms.map HM.mb)) Cf w' ∧ Rf w' ∧ RowC F0 pb c r am mb cm n (φ ms) w')) ∧ Upd (TP F pb w0) w0 w'
def TeamsQ (P : Program) (r : Rul) (x : Leg) (pb c : Nat) (am : Option Addr) (mb cm n B need : Nat) : Prop :=
  ∀ F l D C Cf R Rf φ b7 b5 b6 b4 i0 nums an gn cn pl ms w0, TmP P r x pb c am mb cm n B F l D C Cf R Rf φ b7 b5 b6 b4 need i0 nums an gn cn pl ms w0 →
    CallsV P 111 [.func (.yield l) #[] #[], .pointer (some ⟨b7, 0, none⟩), .pointer (some ⟨b5, 0, none⟩), .pointer (some ⟨b6, 0, none⟩), .pointer (some ⟨b4, 0, none⟩)] w0 (fun _ w' => TmQ r x pb c am mb cm n F C Cf R Rf φ need i0 nums pl ms w0 w')
structure CX (F : Nat → Prop) (pb : Nat) (wR : World) (C : List Tm → World → Prop) (R : World → Prop) (ts pre : List Tm) (W : World) : Prop where
  hc : C (ts ++ pre) W
  hr : R W
  hu : Upd (TP F pb wR) wR W
structure CfX (F : Nat → Prop) (pb : Nat) (wR : World) (Cf : List Tm × Tm → World → Prop) (Rf : World → Prop) (ts : List Tm) (p : List Tm × Tm) (W : World) : Prop where
  hc : Cf (ts ++ p.1, p.2) W
  hr : Rf W
  hu : Upd (TP F pb wR) wR W
def PX (φ : List HM → List HM) (i : Nat) (m : HM) (ms : List HM) : List HM := (φ ms).set i m
theorem CX.bent {F : Nat → Prop} {pb B B' : Nat} {wR : World} {C : List Tm → World → Prop} {R : World → Prop} {ts : List Tm} (hC : Bent B C) (hR : Bent B (fun (_ : Unit) W => R W)) (hb : B ≤ B') (hw : wR.heap.size ≤ B') : Bent B' (CX F pb wR C R ts) := fun x W W' S h u hS =>
  ⟨(hC.mono hb) _ _ _ _ h.hc u hS, (hR.mono hb) () _ _ _ h.hr u hS, h.hu.next u (fun i hi hs => by have := (hS i hs).1; omega)⟩
theorem CfX.bent {F : Nat → Prop} {pb B B' : Nat} {wR : World} {C : List Tm × Tm → World → Prop} {R : World → Prop} {ts : List Tm} (hC : Bent B C) (hR : Bent B (fun (_ : Unit) W => R W)) (hb : B ≤ B') (hw : wR.heap.size ≤ B') : Bent B' (CfX F pb wR C R ts) := fun x W W' S h u hS =>
  ⟨(hC.mono hb) _ _ _ _ h.hc u hS, (hR.mono hb) () _ _ _ h.hr u hS, h.hu.next u (fun i hi hs => by have := (hS i hs).1; omega)⟩
theorem bentR {P : Program} {l D B : Nat} {enc : HT → Value} {Y Z Zf : HT → World → Prop} {R Rf : World → Prop} (h : HandsL P l D enc Y Z Zf R Rf) (hl : l < B) (hD : D < B) : Bent B (fun (_ : Unit) W => R W) ∧ Bent B (fun (_ : Unit) W => Rf W) :=
  ⟨fun _ W W' S hr u hS => h.keep hr u (fun q => by have := (hS _ q).1; omega) (fun q => by have := (hS _ q).1; omega), fun _ W W' S hr u hS => h.keepf hr u (fun q => by have := (hS _ q).1; omega) (fun q => by have := (hS _ q).1; omega)⟩
structure EX (F G : Nat → Prop) (pb c : Nat) (r : Rul) (am : Option Addr) (mb cm n : Nat) (wR : World) (I : World → Prop) (ms : List HM) (W : World) : Prop where
  hi : I W
  row : RowC G pb c r am mb cm n ms W
  hu : Upd (TP F pb wR) wR W
theorem EX.turned {F G : Nat → Prop} {pb c : Nat} {r : Rul} {am : Option Addr} {mb cm n l : Nat} {wR : World} {I : World → Prop} {ms : List HM} (hI : Turned l (fun (_ : Unit) W => I W)) (hl : F l) : Turned l (fun (_ : Unit) W => EX F G pb c r am mb cm n wR I ms W) := fun _ _W _W' h hr u =>
  ⟨hI () _ _ h.hi hr u, RowC.turned _ _ _ h.row hr u, tp_turn h.hu hl u⟩
theorem EndT.turned {ts : List Tm} {Cf : List Tm × Tm → World → Prop} {l : Nat} (h : Turned l Cf) : Turned l (fun (_ : Unit) W => EndT ts Cf W) := fun _ _W _W' ⟨pre, v, post, e, hc⟩ hr u => ⟨pre, v, post, e, h _ _ _ hc hr u⟩
theorem EndT.bent {ts : List Tm} {Cf : List Tm × Tm → World → Prop} {B : Nat} (h : Bent B Cf) : Bent B (fun (_ : Unit) W => EndT ts Cf W) := fun _ _W _W' _S ⟨pre, v, post, e, hc⟩ u hS => ⟨pre, v, post, e, h _ _ _ _ hc u hS⟩
theorem EndT.mb {ts : List Tm} {Cf : List Tm × Tm → World → Prop} {mb pb : Nat} (h : ∀ p W W', Cf p W → Upd (MB mb pb) W W' → Cf p W') {W W' : World} : EndT ts Cf W → Upd (MB mb pb) W W' → EndT ts Cf W' := fun ⟨pre, v, post, e, hc⟩ u => ⟨pre, v, post, e, h _ _ _ hc u⟩
def HM.put (m : HM) (x : Leg) (a : Option Addr) (g c : Nat) : HM := ⟨m.f, m.u, m.ps, m.ap, m.bp, m.op, m.cp, m.ad, m.nd, m.cd, canT m.f m.u m.ts x, a, g, c⟩
theorem map_put {ms : List HM} {x : Leg} {i : Nat} {a : Option Addr} {g c : Nat} (h : i < ms.length) : (ms.set i ((nth ms i).put x a g c)).map HM.mb = (ms.map HM.mb).set i (aftM x (nth (ms.map HM.mb) i)) := by
  rw [List.map_set, nth_map' _ h]; rfl
theorem Sl.subTo {α : Type} [Inhabited α] {enc : α → List Value} {k : Nat} {w : World} {ao : Option Addr} {b o : Nat} {xs : List α} (h : Sl enc k w ao b o xs) (cap n : Nat) (hc : xs.length ≤ cap) : Sl enc k w (subAddr ao cap 0 k) b o (xs.take n) := by
  have := h.sub cap 0 n hc
  simpa using this
theorem Sl.clip {α : Type} [Inhabited α] {enc : α → List Value} {k : Nat} {w : World} {ao : Option Addr} {b o : Nat} {xs : List α} (h : Sl enc k w ao b o xs) : Sl enc k w (subAddr ao xs.length 0 k) b o xs := by
  have := h.subTo xs.length xs.length (Nat.le_refl _)
  rwa [List.take_length] at this
theorem phi_at {φ : List HM → List HM} {i0 i : Nat} (_hl : ∀ ms, (φ ms).length = ms.length) (h : ∀ ms i m, i0 ≤ i → φ (ms.set i m) = (φ ms).set i m) {ms : List HM} (hi : i < ms.length) (h0 : i0 ≤ i) : (φ ms).set i (nth ms i) = φ ms := by
  rw [← h _ _ _ h0, set_self hi]
theorem PX.back {φ : List HM → List HM} {i0 i : Nat} (hl : ∀ ms, (φ ms).length = ms.length) (h : ∀ ms i m, i0 ≤ i → φ (ms.set i m) = (φ ms).set i m) {ms : List HM} {m : HM} (hi : i < ms.length) (h0 : i0 ≤ i) : PX φ i (nth ms i) (ms.set i m) = φ ms := by
  unfold PX; rw [h _ _ _ h0, List.set_set, phi_at hl h hi h0]
theorem PX.len {φ : List HM → List HM} {i : Nat} {m : HM} (hl : ∀ ms, (φ ms).length = ms.length) : ∀ ms, (PX φ i m ms).length = ms.length := fun ms => by unfold PX; rw [List.length_set, hl]
theorem PX.comm {φ : List HM → List HM} {i0 i : Nat} {m : HM} (h : ∀ ms i m, i0 ≤ i → φ (ms.set i m) = (φ ms).set i m) (h0 : i0 ≤ i) : ∀ ms j m', i + 1 ≤ j → PX φ i m (ms.set j m') = (PX φ i m ms).set j m' := fun ms j m' hj => by
  unfold PX; rw [h _ _ _ (by omega), List.set_comm _ _ (by omega)]
theorem CellsB.of {S : Nat → Prop} {B : Nat} {w : World} (h : CellsIn S w) : ∀ k, B ≤ k → k < w.heap.size → S k → ∃ cur t f, w.heap[k]? = some (.cells cur t f) := fun k _ hk hs => h k hk hs
theorem TP.cellsB {F : Nat → Prop} {pb B : Nat} {w : World} (hF : ∀ i, F i → i < B) : ∀ k, B ≤ k → k < w.heap.size → TP F pb w k → ∃ cur t f, w.heap[k]? = some (.cells cur t f) := fun k hB _ h => by
  rcases h with h | ⟨_, cs, h⟩
  · have := hF k h; omega
  · exact ⟨_, _, _, h⟩
theorem KeepsFrom.of_updB {S : Nat → Prop} {B : Nat} {w w' : World} (u : Upd S w w') (h : ∀ k, B ≤ k → k < w.heap.size → S k → ∃ cur t f, w.heap[k]? = some (.cells cur t f)) : KeepsFrom B w w' :=
  ⟨u.size, fun k o hB hk ho => (u.block k (Array.getElem?_eq_some_iff.1 hk).1 (fun hs => by
    obtain ⟨c, t, f, hc⟩ := h k hB (Array.getElem?_eq_some_iff.1 hk).1 hs
    rw [hk] at hc
    cases hc
    cases ho)).trans hk⟩
theorem Marks.keepB {base : Nat} {S : Nat → Prop} : ∀ {ds : List Deferred} {w w' : World}, Marks base ds w → Upd S w w' → (∀ k, base ≤ k → k < w.heap.size → S k → ∃ cur t f, w.heap[k]? = some (.cells cur t f)) → Marks base ds w'
  | [], _, _, _, _, _ => trivial
  | d :: ds, w, w', h, u, hc => by
    obtain ⟨⟨D, h1, h2, h3, h4⟩, h5⟩ := h
    refine ⟨⟨D, h1, h2, ?_, h4⟩, h5.keepB u hc⟩
    have hlt := lt_of_block h3
    refine (u.block D hlt (fun hs => ?_)).trans h3
    obtain ⟨c, t, f, hq⟩ := hc D h2 hlt hs
    rw [h3] at hq
    cases hq
theorem own90 : Own Tryz.prog 90 := ⟨Tryz.f90, func90, by kernel_rfl, by kernel_rfl⟩
theorem own111 : Own Tryz.prog 111 := ⟨Tryz.f111, func111, by kernel_rfl, by kernel_rfl⟩
theorem own112 : Own Tryz.prog 112 := ⟨Tryz.f112, func112, by kernel_rfl, by kernel_rfl⟩

end Go.Proofs.YtagmodjadmecdaaGreat
