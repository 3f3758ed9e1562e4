/-
  Part 9 of the proof: contracts and plain laws. Conditions: none.
-/
import Derived.RangeFuncNested
import Derived.RangeFuncBound
import Derived.RangeFuncLeaves
import Derived.Test.YtagmkfbbhfaceaaGreatDoorBK8
namespace Go.Proofs.YtagmkfbbhfaceaaGreatDoor
open Go Go.RowKit

theorem Ext.grownBy {w w' : World} (h : Ext w w') : w.grownBy w' none := ⟨h.os, h.tape, h.output, h.size, fun k hk _ => h.block k hk id⟩
theorem Upd.putObj (w : World) (l : Nat) (o : Obj) : Upd (· = l) w (w.putObj l o) := ⟨rfl, rfl, rfl, by simp, fun k _ hn => World.putObj_heap_other hn⟩

/-- What is said abides the turn of what is no cells, from B on. -/
theorem ownFrom_blk {β : Type} {B b : Nat} {t : TypeId} {f : β → List Value} : OwnFrom B (fun s w => Blk w b t (f s)) := fun s W W' row hs hg hr =>
  (hg.block b (Blk.lt hs) (fun e => by
    obtain ⟨_, o, ho, hc⟩ := hr b e.symm
    rw [show W.heap[b]? = _ from hs] at ho
    cases ho
    cases hc)).trans hs

theorem ownFrom_acc {β α : Type} {B : Nat} {enc : α → List Value} {k : Nat} {e : TypeId} {base : Nat} {ao : β → Option Addr} {g cap : β → Nat} {xs : β → List α} : OwnFrom B (fun s w => Acc enc k e base w (ao s) (g s) (cap s) (xs s)) := fun s W W' row hs hg hr => by
  refine ⟨Nat.lt_of_lt_of_le hs.lt hg.size, ?_⟩
  rcases hs.at_ with h1 | ⟨h1, h2, cur, h3, h4⟩
  · exact .inl h1
  · refine .inr ⟨h1, h2, cur, (hg.block _ hs.lt (fun e' => ?_)).trans h3, h4⟩
    obtain ⟨_, o, ho, hc⟩ := hr _ e'.symm
    rw [h3] at ho
    cases ho
    cases hc

theorem ownFrom_ex {β γ : Type} {B : Nat} {I : γ → β → World → Prop} (h : ∀ c, OwnFrom B (I c)) : OwnFrom B (fun s w => ∃ c, I c s w) := fun s W W' row hs hg hr => by
  obtain ⟨c, hc⟩ := hs
  exact ⟨c, h c s W W' row hc hg hr⟩

theorem ownFrom_upd {β : Type} {B : Nat} {S : Nat → Prop} {w0 : World} (hB : w0.heap.size ≤ B) : OwnFrom B (fun (_ : β) w => Upd S w0 w) := fun _ W W' row hs hg hr =>
  ⟨hg.os.trans hs.os, hg.tape.trans hs.tape, hg.output.trans hs.output, Nat.le_trans hs.size hg.size, fun k hk hn =>
    (hg.block k (Nat.lt_of_lt_of_le hk hs.size) (fun e => by have := (hr k e.symm).1; omega)).trans (hs.block k hk hn)⟩

/-- What may turn is cells. -/
def CellsIn (S : Nat → Prop) (w : World) : Prop := ∀ k, k < w.heap.size → S k → ∃ cur t f, w.heap[k]? = some (.cells cur t f)

theorem CellsIn.none (w : World) : CellsIn (fun _ => False) w := fun _ _ h => h.elim
theorem Blk.cellsIn {w : World} {b : Nat} {t : TypeId} {cs : List Value} (h : Blk w b t cs) : CellsIn (· = b) w := fun k _ e => by subst e; exact ⟨_, _, _, h⟩
theorem Acc.cellsIn {α : Type} {enc : α → List Value} {k : Nat} {e : TypeId} {base : Nat} {w : World} {ao : Option Addr} {g cap : Nat} {xs : List α} (h : Acc enc k e base w ao g cap xs) : CellsIn (fun i => i = g ∧ base ≤ i) w := fun i _ hi => by
  rcases h.at_ with ⟨_, _, _, h1⟩ | ⟨_, _, cur, h1, _⟩
  · omega
  · rw [hi.1]; exact ⟨_, _, _, h1⟩
theorem CellsIn.or {S T : Nat → Prop} {w : World} (h : CellsIn S w) (k : CellsIn T w) : CellsIn (fun i => S i ∨ T i) w := fun i hi h' => h'.elim (h i hi) (k i hi)

theorem KeepsFrom.of_upd {S : Nat → Prop} {B : Nat} {w w' : World} (u : Upd S w w') (h : CellsIn S w) : KeepsFrom B w w' :=
  ⟨u.size, fun k o _ hk ho => (u.block k (Array.getElem?_eq_some_iff.1 hk).1 (fun hs => by
    obtain ⟨c, t, f, hc⟩ := h k (Array.getElem?_eq_some_iff.1 hk).1 hs
    rw [hk] at hc
    cases hc
    cases ho)).trans hk⟩

/-! ### The marks of ended loops among the deferred calls -/
def mark (D : Nat) : Deferred := { target := .collected D, args := #[] }

/-- The deferred calls are the marks of loops in whose rounds nothing was deferred. -/
def Marks (base : Nat) : List Deferred → World → Prop
  | [], _ => True
  | d :: ds, w => (∃ D, d = mark D ∧ base ≤ D ∧ w.heap[D]? = some (.deferred (some [])) ∧ (∀ d' ∈ ds, ∀ D', d' = mark D' → D' < D)) ∧ Marks base ds w

theorem Marks.keep {base : Nat} {S : Nat → Prop} : ∀ {ds : List Deferred} {w w' : World}, Marks base ds w → Upd S w w' → CellsIn S w → Marks base ds w'
  | [], _, _, _, _, _ => trivial
  | d :: ds, w, w', h, u, hc => by
    obtain ⟨⟨D, h1, h2, h3, h4⟩, h5⟩ := h
    refine ⟨⟨D, h1, h2, ?_, h4⟩, h5.keep u hc⟩
    have hlt := lt_of_block h3
    refine (u.block D hlt (fun hs => ?_)).trans h3
    obtain ⟨c, t, f, hq⟩ := hc D hlt hs
    rw [h3] at hq
    cases hq

theorem Marks.lt {base : Nat} : ∀ {ds : List Deferred} {w : World}, Marks base ds w → ∀ d ∈ ds, ∀ D, d = mark D → D < w.heap.size
  | [], _, _, d, hd, _, _ => by cases hd
  | d :: ds, w, h, d', hd, D', e => by
    obtain ⟨⟨D, h1, h2, h3, h4⟩, h5⟩ := h
    rcases List.mem_cons.1 hd with rfl | hd
    · rw [h1] at e
      injection e with e
      injection e with e
      subst e
      exact lt_of_block h3
    · exact h5.lt d' hd D' e

theorem Marks.keepLow {base : Nat} {S : Nat → Prop} {B : Nat} : ∀ {ds : List Deferred} {w w' : World}, Marks base ds w → Upd S w w' → (∀ d ∈ ds, ∀ D, d = mark D → D < B) → (∀ k, S k → B ≤ k) → Marks base ds w'
  | [], _, _, _, _, _, _ => trivial
  | d :: ds, w, w', h, u, hB, hS => by
    obtain ⟨⟨D, h1, h2, h3, h4⟩, h5⟩ := h
    refine ⟨⟨D, h1, h2, ?_, h4⟩, h5.keepLow u (fun d' hd' => hB d' (by simp [hd'])) hS⟩
    exact (u.block D (lt_of_block h3) (fun hs => by have := hB d (by simp) D h1; have := hS D hs; omega)).trans h3

theorem Marks.push {base : Nat} {ds : List Deferred} {w : World} {D : Nat} (h : Marks base ds w) (hb : base ≤ D) (hD : w.heap[D]? = some (.deferred (some []))) (hn : ∀ d ∈ ds, ∀ D', d = mark D' → D' < D) : Marks base (mark D :: ds) w :=
  ⟨⟨D, rfl, hb, hD, hn⟩, h⟩

section steps
variable {rd : Option Nat} {P : Program} {ops : Array Oper} {Q : Exit → Act → World → Prop} {N : Nat} {ds : List Deferred} {rest : List Oper} {L : Slots} {w : World}
variable {d : Nat} {ty : TypeId} {pos : String} {aft : Array Edge} {g : Option (Nat × Bool)} {c : Code}

theorem roundIn_rnd {n m : Nat} {l : Nat} {f : FuncId} {tmps : Array Value} {assign body : Code} {R : Ending → World → Prop} (h : RoundIn Fence.wide m P l f tmps assign body w R) : RoundIn (rnd rd) n P l f tmps assign body w R := by
  obtain ⟨_, h2⟩ := h
  refine ⟨rnd_fn _ _, fun c cs _ => ?_⟩
  have := h2 c cs (room_wide _)
  cases rd with
  | none => exact this
  | some l => exact this

/-- A call of yield: one round. -/
theorem t_yield {f : Operand} {l m : Nat} {xs : Array Operand} {ats : Array TypeId} {vs : List Value} {R : Ending → World → Prop} (hg : grd ops L g = true) (hN : Nat.blt d N = true)
    (hf : ev L f = some (.func (.yield l) #[] #[])) (hv : evs L xs.toList = some vs) (hy : YieldAt Fence.wide m P l vs.toArray w R) (hR : ∀ e w', R e w' → ∃ v, e = .returned v)
    (h : ∀ v w', R (.returned v) w' → WL rd P ops Q N ds rest ((d, v) :: L) w') : WL rd P ops Q N ds (⟨some d, .call ⟨.value f, xs, ats⟩, ty, pos, aft, g⟩ :: rest) L w := by
  refine ⟨fun a ha => ?_⟩
  obtain ⟨fn, tmps, assign, body, hy1, hy2⟩ := hy
  have e1 : xs.map a.eval = vs.toArray := by rw [← ha.evs hv, ← Array.toList_map]
  have hr : (execOp a.eval ⟨some d, .call ⟨.value f, xs, ats⟩, ty, pos, aft, g⟩).run P w = .ok (.round l fn tmps assign body) w := by
    simp [execOp, resolve, ha.ev hf, Deferred.ofValue, invoke, e1, hy1]
  unfold wpListIn
  rw [if_pos (ha.wanted (o := ⟨some d, .call ⟨.value f, xs, ats⟩, ty, pos, aft, g⟩) hg)]
  unfold Oper.wpIn
  refine ⟨fun f _ => rnd_fn _ f, ?_⟩
  rw [semAt_of_ok (by simp) hr, Oper.uponIn_round]
  refine ⟨fun h => by simp [rnd_depth] at h, RoundIn.mono (roundIn_rnd hy2) ?_⟩
  intro e w' r
  obtain ⟨v, rfl⟩ := hR e w' r
  exact h v w' r _ (ha.put v hN)

theorem wpIn_rnd {n m : Nat} {a : Act} (h : c.wpIn (rnd rd) m P Q a w) : c.wpIn (rnd rd) n P Q a w :=
  fun b k cs hro hb _ => h b k cs hro hb (fun d hd => by rw [rnd_depth] at hd; cases hd)

/-- The statement 'for x := range g', g an iterator with a contract; the body never leaves the loop. -/
theorem c_range {α : Type} {go : Operand} {p : Nat} {assign body : Code} {gf : Nat} {lb : List Value} {enc : α → Value} {T : Nat → Prop} {S Sp : List α → Prop} {M m : Nat} (ho : Own P gf)
    (hp : Nat.blt p N = true) (hg : ev L go = some (.func (.func gf) #[] lb.toArray)) (hseq : SeqStopsK Fence.wide m P gf lb.toArray (fun x => #[enc x]) (Upd T) S Sp M w) (hT : ∀ k, w.heap.size ≤ k → T k)
    (I : List α → World → Prop) (hI : OwnFrom w.heap.size I) (h0 : I [] w) (La : α → Slots)
    (hassign : ∀ (l : Nat) (pre : List α) (x : α) (W : World) (K : Act → World → Prop), I pre W → (∀ L', Sub (La x) L' → QK K N [] L' W) → WC (some l) P (Exit.then K (fun _ _ _ => False)) N [] assign ((p, enc x) :: L) W)
    (hbody : ∀ (l : Nat) (pre : List α) (x : α) (W : World), I pre W → pre.length < M → WC (some l) P (ownPostG w.heap.size (Upd T) I (fun _ _ _ => False) (pre ++ [x]) W) N [] body (La x) W)
    (hdone : ∀ (D : Nat) (xs : List α) (W : World), w.heap.size ≤ D → S xs → I xs W → W.heap[D]? = some (.deferred (some [])) → QK (Q .normal) N (mark D :: ds) L W) :
    WC none P Q N ds (.rangeFunc go #[p] assign body) L w := by
  refine ⟨fun a ha => ?_⟩
  have hseq' : SeqStopsK Fence.wide (3 - 1) P gf lb.toArray (fun x => #[enc x]) (Upd T) S Sp M w := by
    intro l J Jx W h1 h2 h3 h4 h5
    refine callsIn_wide.2 (callsIn_wide.1 (hseq l J Jx W h1 h2 h3 (fun pre x W1 h6 h7 => ?_) h5))
    obtain ⟨fn, tmps, assign, body, hy1, hy2⟩ := h4 pre x W1 h6 h7
    exact ⟨fn, tmps, assign, body, hy1, roundIn_rnd (rd := none) hy2⟩
  refine wpIn_rangeFunc_ownH (F := Fence.wide) (n := 3) (w0 := w) rfl (by decide) (ha.ev hg) trivial (fun args w => ho.run args w) hseq' (fun h k => h.trans k)
    (fun W l o o' hl _ _ _ => (Upd.putObj W l o').mono (fun k hk => hT k (by omega))) (Below.refl _ _) (fun _ => rfl) I (fun _ _ _ => False) hI (fun _ _ _ _ _ h _ _ => h) h0
    (fun x a' _ => Kn N [] (La x) a') (fun _ _ _ _ _ _ h _ _ => h) ?_ ?_ ?_ ?_
  · intro l pre x W K hi hK
    have hk : Kn N [] ((p, enc x) :: L) { tmps := (#[p].zip #[enc x]).foldl (fun t (p, v) => t.setIfInBounds p v) a.tmps, defers := [] } := by
      have h1 : Kn N [] L { a with defers := [] } := ⟨ha.size, rfl, ha.get⟩
      have h2 := h1.put (enc x) hp
      refine ⟨by simpa [Act.put] using h2.size, rfl, fun k v hv => ?_⟩
      have := h2.get k v hv
      simpa [Act.put] using this
    refine wpIn_rnd (rd := some l) (m := 3) (hassign l pre x W K hi (fun L' hs => ⟨fun a' ha' => hK a' W (KeepsFrom.refl _ _) (Upd.refl _ _) hi (ha'.sub hs)⟩) _ hk)
  · intro l pre x a' W _ _ hi hA hlen
    exact wpIn_rnd (rd := some l) (m := 3) (hbody l pre x W hi hlen a' hA)
  · intro D xs W hD hS hI' hd
    refine hdone D xs W hD hS hI' hd _ ⟨ha.size, ?_, ha.get⟩
    simp [ha.defers, mark]
  · intro D c pre W _ _ h _
    exact h.elim

theorem f_enterM {R : Value → World → Prop} {f : FuncId} {fn : Func} {vs : List Value} (hf : P.funcs[f]? = some fn) (hb : fn.body = some c) (hn : Nat.ble vs.length N = true) (hN : fn.ntmps = N)
    (h : WC none P (bodyPostM (rnd none) 3 P fn fun e w' => ∃ v, e = .returned v ∧ R v w') N [] c (args 0 vs) w) : CallsV P f vs w R := by
  refine callsIn_wide.1 (callsIn_of_wp_marks (F := Fence.wide) (n := 3) hf hb trivial (h _ ⟨?_, rfl, ?_⟩))
  · have : vs.length ≤ N := Nat.le_of_ble_eq_true hn
    simp [hN]; omega
  · intro k v hk
    have ⟨_, h2⟩ := look_args vs 0 v hk
    rw [Array.getD_eq_getD_getElem?]
    have h3 : k < vs.length := by
      rcases Nat.lt_or_ge k vs.length with h | h
      · exact h
      · simp [List.getElem?_eq_none h] at h2
    rw [Array.getElem?_append_left (by simpa using h3)]
    simpa using congrArg (fun o => o.getD undef) h2

def tmpRes (L : Slots) : ResultVar → Option Value
  | .tmp t => look t L
  | .cell _ _ => none

theorem tmpRes.run {r : ResultVar} {v : Value} (h : tmpRes L r = some v) {a : Act} (ha : Kn N ds L a) (w : World) : (resOf a.tmps r).run P w = .ok v w := by
  cases r with
  | tmp t => simp only [resOf, Sem.run_pure]; rw [ha.get _ _ h]
  | cell s t => cases h

end steps
end Go.Proofs.YtagmkfbbhfaceaaGreatDoor
namespace Go.Proofs.YtagmkfbbhfaceaaGreatDoor
open Go Go.RowKit Go.Proofs.Tryz
set_option maxRecDepth 10000
/-! ### bytes in blocks -/
abbrev Ix (n : Nat) := { k : Nat // k < n }
theorem vals_snoc {n : Nat} {pre : List (Ix n)} {x : Ix n} {l : List Nat} (h : pre.map (·.1) = l) : (pre ++ [x]).map (·.1) = l ++ [x.1] := by rw [List.map_append, h]; rfl
/-- block k of bytes, as it is handed out -/
def encCk (ab : Option Addr) {m : Nat} (x : Ix m) : Value := .slice (subAddr ab (32 * x.1 + 32) (32 * x.1) 1) 32 32
def mk32 (l : List UInt8) : Bk := if h : l.length = 32 then ⟨l, h⟩ else zeroBk
theorem mk32_l {l : List UInt8} (h : l.length = 32) : (mk32 l).l = l := by unfold mk32; rw [dif_pos h]
def ckP (b : List UInt8) (k : Nat) : List UInt8 := (b.drop (32 * k)).take 32
theorem ckP_len {b : List UInt8} {m k : Nat} (hb : b.length = 32 * m) (hk : k < m) : (ckP b k).length = 32 := by unfold ckP; rw [List.length_take, List.length_drop]; omega
/-- the blocks of bytes -/
def blksP (b : List UInt8) (m : Nat) : List Bk := (List.range m).map fun k => mk32 (ckP b k)
theorem blksP_len (b : List UInt8) (m : Nat) : (blksP b m).length = m := by unfold blksP; rw [List.length_map, List.length_range]
/-- what open returns -/
def opE (b : List UInt8) : Int := if b.length % 32 ≠ 0 ∨ b.length / 32 < 2 ∨ b.length / 32 % 5 = 1 then 4 else if 1300 < b.length / 32 then 5 else 0
def opP (b : List UInt8) : List Bk := if opE b = 0 then blksP b (b.length / 32) else []
theorem opE_ok {b : List UInt8} (h : opE b = 0) : b.length = 32 * (b.length / 32) ∧ 2 ≤ b.length / 32 ∧ b.length / 32 % 5 ≠ 1 ∧ b.length / 32 ≤ 1300 := by
  unfold opE at h
  split at h
  · cases h
  · split at h
    · cases h
    · omega
theorem mk32_bytes (v : Bk) : mk32 v.l = v := Bk.ext' (mk32_l v.h)
theorem ckP_bytes : ∀ (v : List Bk) (i : Nat) (h : i < v.length), ckP (bytesP v) i = v[i].l
  | x :: v, 0, _ => by
    have e : bytesP (x :: v) = x.l ++ bytesP v := rfl
    have hx := x.h
    unfold ckP
    rw [e, Nat.mul_zero, List.drop_zero, List.take_append_of_le_length (by omega), List.take_of_length_le (by omega)]; rfl
  | x :: v, i + 1, h => by
    have e : bytesP (x :: v) = x.l ++ bytesP v := rfl
    have hx := x.h
    have ih := ckP_bytes v i (by simpa using h)
    unfold ckP at ih ⊢
    rw [e, List.drop_append, List.drop_of_length_le (by omega), List.nil_append, hx, show 32 * (i + 1) - 32 = 32 * i by omega]
    exact ih
theorem blksP_of (v : List Bk) : blksP (bytesP v) v.length = v := by
  refine List.ext_getElem? fun i => ?_
  unfold blksP
  rw [List.getElem?_map]
  rcases Nat.lt_or_ge i v.length with h | h
  · rw [List.getElem?_range h, List.getElem?_eq_getElem h]
    show some (mk32 (ckP (bytesP v) i)) = some v[i]
    rw [ckP_bytes v i h, mk32_bytes]
  · rw [List.getElem?_eq_none (by rw [List.length_range]; exact h), List.getElem?_eq_none h]; rfl
theorem ck_at {b : List UInt8} {w : World} {ab : Option Addr} {bb ob m k : Nat} (h : Sl encY 1 w ab bb ob b) (hl : b.length = 32 * m) (hk : k < m) : subAddr ab (32 * k + 32) (32 * k) 1 = some ⟨bb, ob + 32 * k, none⟩ ∧ At w bb (ob + 32 * k) (ys (mk32 (ckP b k)).l) := by
  have hc := ckP_len hl hk
  constructor
  · have ha := h.addr (by omega)
    subst ha
    unfold subAddr
    rw [if_neg (by omega)]
    simp [addr_add]
  · rw [mk32_l hc]
    intro j v hv
    have hj : j < (ckP b k).length := by have := (List.getElem?_eq_some_iff.1 hv).1; rwa [ys_length] at this
    have e := (ys_nth hj).symm.trans hv
    injection e with e
    subst e
    have hn : nth (ckP b k) j = nth b (32 * k + j) := by unfold ckP; rw [nth_takeL (by omega), nth_drop]
    rw [hn]
    have h9 := h.at_ (32 * k + j) (by omega) 0 _ rfl
    rwa [show ob + (32 * k + j) * 1 + 0 = ob + 32 * k + j by omega] at h9
theorem own124 : Own Tryz.prog 124 := ⟨Tryz.f124, func124, by kernel_rfl, by kernel_rfl⟩

theorem chunk_c (ab : Option Addr) (n cb : Nat) (w0 : World) :
    CallsV Tryz.prog 75 [.slice ab n cb, .int .i64 32] w0 (fun v w' => (∃ b1 b2, v = .func (.func 124) #[] #[.pointer (some ⟨b1, 0, none⟩), .pointer (some ⟨b2, 0, none⟩)] ∧ w0.heap.size ≤ b1 ∧ w0.heap.size ≤ b2 ∧ Blk w' b1 24 [.slice ab n cb] ∧ Blk w' b2 3 [.int .i64 32]) ∧ Ext w0 w') := by
 refine f_n func75 ?_
 refine go ?_
 refine x_b fun bk2 w3 ebk2 sbk2 B4 u5 => ?_
 refine x_b fun bk7 w8 ebk7 sbk7 B9 u10 => ?_
 refine go ?_
 refine t_mkfunc (vs := []) (us := [.pointer (some ⟨bk2, 0, none⟩), .pointer (some ⟨bk7, 0, none⟩)]) rfl rfl rfl rfl ?_
 refine go ?_
 refine f_1 results75 ?_
 have B15 := (B4.kx u10)
 exact ⟨⟨_, _, rfl, by omega, by omega, B15, B9⟩, u_d⟩

set_option maxHeartbeats 4000000 in
set_option maxRecDepth 20000 in
theorem chunk1_c (m n : Nat) (ab : Option Addr) (cb b1 b2 l q : Nat) (T : Nat → Prop) (J Jx : List (Ix m) → World → Prop) (w0 : World) (hn : n = 32 * m) (hm : m ≤ 100000) (hcb : n ≤ cb) (h1 : Blk w0 b1 24 [.slice ab n cb]) (h2 : Blk w0 b2 3 [.int .i64 32]) (hT1 : ¬ T b1) (hT2 : ¬ T b2) (hJ : AbidesFrom w0.heap.size J) (hY : ∀ pre x W1, J pre W1 → pre.length < m → YieldAt Fence.wide q Tryz.prog l #[encCk ab x] W1 fun e W' => (e = .returned (.bool true) ∧ J (pre ++ [x]) W' ∧ Upd T W1 W') ∨ (e = .returned (.bool false) ∧ Jx (pre ++ [x]) W')) (hJ0 : J [] w0) :
    CallsV Tryz.prog 124 [.func (.yield l) #[] #[], .pointer (some ⟨b1, 0, none⟩), .pointer (some ⟨b2, 0, none⟩)] w0 (fun v w' => ∃ u, v = u ∧ ((∃ xs : List (Ix m), xs.map (·.1) = List.range m ∧ J xs w') ∨ (∃ pre, Jx pre w'))) := by
 have l1 := h1.lt
 have l2 := h2.lt
 refine f_n func124 ?_
 refine go ?_
 refine x_l3 (fun i => T i) [0, 1, 2] (fun (k : Nat) (e : Nat) (pre : List (Ix m)) => [(4, .int .i64 (e : Int))]) (fun k e pre w => (k ≤ m) ∧ (e = 32 * k) ∧ (pre.map (·.1) = List.range k) ∧ (J pre w)) (fun k e pre => m - k) 0 0 ([]) ⟨(Nat.zero_le _), rfl, rfl, hJ0⟩ ?_
 rintro k e pre w3 ⟨hk, he, hpre, hJk⟩ u4 zu4 K2 hK2
 have hplk : pre.length = k := by have h9 := congrArg List.length hpre; rw [List.length_map, List.length_range] at h9; exact h9
 refine go ?_
 refine q_p (fun g9 => ?_) fun g9 => ?_
 ·
  have hkn : k < m := by omega
  have hplm : pre.length < m := by omega
  refine go ?_
  refine c_drawnM follows (fun _ => False) (OTl [0, 2, 4, 6, 8, 10, 12]) (by kernel_rfl) fun w10 u11 => ?_
  have zu11 := u11.size
  refine go ?_
  refine y_sliceFrom (e) underlying24 sizeOf5 rfl rfl rfl rfl rfl (by omega) (by omega) ?_
  refine go ?_
  refine y_min rfl rfl rfl rfl (y_same 18 (v := .int .i64 32) rfl (congrArg (Value.int .i64) (by omega)) ?_)
  refine go ?_
  refine t_slice3 (e) (e + 32) (e + 32) underlying24 sizeOf5 rfl rfl rfl rfl rfl rfl (by omega) (by omega) (by omega) (by omega) (by omega) (by omega) (t_same 28 (v := .slice (subAddr ab (32 * k + 32) (32 * k) 1) 32 32) rfl (by rw [show e + 32 - e = 32 by omega, he]) (t_yield (vs := [.slice (subAddr ab (32 * k + 32) (32 * k) 1) 32 32]) rfl rfl rfl rfl (hY pre ⟨k, hkn⟩ _ (hJ _ _ _ none hJk (Ext.grownBy ((Upd.refl (fun _ => False) _).nx u11)) (fun r e => by cases e)) hplm) (by rintro e w' (⟨rfl, _⟩ | ⟨rfl, _⟩) <;> exact ⟨_, rfl⟩) (fun v14 w15 r16 => ?_)))
  obtain ⟨yb, rfl, hrd⟩ : ∃ b, v14 = .bool b ∧ ((b = true → J (pre ++ [⟨k, hkn⟩]) w15 ∧ Upd T w10 w15) ∧ (b = false → Jx (pre ++ [⟨k, hkn⟩]) w15)) := by
    rcases r16 with ⟨e, h⟩ | ⟨e, h⟩
    · injection e with e; exact ⟨true, e, fun _ => h, fun h => by cases h⟩
    · injection e with e; exact ⟨false, e, fun h => (by cases h), fun _ => h⟩
  refine go ?_
  refine q_b (fun g30 => ?_) fun g30 => ?_
  ·
   refine go ?_
   refine f_ret0 results124 ?_
   exact ⟨_, rfl, .inr ⟨_, hrd.2 (by simpa using g30)⟩⟩
  obtain ⟨hJ2, u17⟩ := hrd.1 (by simpa using g30)
  have zu17 := u17.size
  refine go ?_
  exact hK2 (k + 1) (e + 32) (pre ++ [⟨k, hkn⟩]) ⟨(by omega), (by omega), (by rw [vals_snoc hpre, List.range_succ]), hJ2⟩ (hu := ((u4.nx u11).next u17 (fun i hi (h : T i) => show T i by first | omega | assumption)))
 refine go ?_
 refine f_ret0 results124 ?_
 exact ⟨_, rfl, .inl ⟨pre, (by rw [hpre, show k = m from by omega]), hJk⟩⟩


theorem chunk_seq (m n : Nat) (ab : Option Addr) (cb b1 b2 : Nat) (T : Nat → Prop) (w : World) (hn : n = 32 * m) (hm : m ≤ 100000) (hcb : n ≤ cb) (h1 : Blk w b1 24 [.slice ab n cb]) (h2 : Blk w b2 3 [.int .i64 32]) (hT1 : ¬ T b1) (hT2 : ¬ T b2) :
    SeqStopsK Fence.wide 2 Tryz.prog 124 [.pointer (some ⟨b1, 0, none⟩), .pointer (some ⟨b2, 0, none⟩)].toArray (fun x => #[encCk ab x]) (Upd T) (fun xs : List (Ix m) => xs.map (·.1) = List.range m) (fun _ => True) m w := by
  intro l J Jx W hW hJ hJx hY h0
  have hE : Ext w W := Below.ext hW
  refine callsIn_wide.2 (Calls.mono (chunk1_c m n ab cb b1 b2 l 1 T J Jx W hn hm hcb (h1.keep hE (fun h => h)) (h2.keep hE (fun h => h)) hT1 hT2 hJ hY h0) ?_)
  rintro e w' ⟨v, rfl, u, rfl, h⟩
  exact ⟨⟨_, rfl⟩, h.imp (fun h => h) (fun ⟨pre, h⟩ => ⟨pre, trivial, h⟩)⟩

end Go.Proofs.YtagmkfbbhfaceaaGreatDoor
namespace Go.Proofs.YtagmkfbbhfaceaaGreatDoor
open Go Go.RowKit

/-- Of what lay in w only the marks' blocks may read otherwise. -/
abbrev OffMarks (ds : List Deferred) (w w' : World) : Prop := Upd (fun i => ∃ d ∈ ds, d = mark i) w w'
theorem leavesInM_marksC {P : Program} {fn : Func} {tmps : Array Value} {R : Value → World → Prop} {base : Nat} {v : Value} : ∀ (ds : List Deferred) (w : World), (∀ w', OffMarks ds w w' → (results fn tmps).run P w' = .ok v w') → Marks base ds w → (∀ w', Upd (fun i => base ≤ i) w w' → OffMarks ds w w' → R v w') →
    LeavesInM (rnd none) 3 P fn tmps (fun e w' => ∃ v, e = .returned v ∧ R v w') ds .returning w
  | [], w, hr, _, hR => ⟨v, hr w (Upd.refl _ _), v, rfl, hR w (Upd.refl _ _) (Upd.refl _ _)⟩
  | d :: ds, w, hr, h, hR => by
    obtain ⟨⟨D, rfl, h2, h3, h4⟩, h5⟩ := h
    refine ⟨by simp, .inl ⟨D, _, rfl, run_takeDeferred h3, ?_⟩⟩
    have u := Upd.putObj w D (.deferred none)
    have hm : Marks base ds (w.putObj D (.deferred none)) := h5.keepLow u h4 (fun k hk => by omega)
    have uo : ∀ {w'}, OffMarks ds (w.putObj D (.deferred none)) w' → OffMarks (mark D :: ds) w w' := fun {w'} h => (u.mono (fun k hk => ⟨mark D, by simp, by subst hk; rfl⟩)).trans (h.mono (fun k ⟨d, h1, h2⟩ => ⟨d, by simp [h1], h2⟩))
    exact leavesInM_marksC ds _ (fun w' h => hr w' (uo h)) hm (fun w' u' h => hR w' ((u.mono (fun k hk => by omega)).trans u') (uo h))
theorem Marks.notCells {base : Nat} {b : Nat} {c : Array Value} {t : TypeId} {f : Nat × Nat} : ∀ {ds : List Deferred} {w : World}, Marks base ds w → w.heap[b]? = some (.cells c t f) → ¬ ∃ d ∈ ds, d = mark b
  | [], _, _, _, h => by obtain ⟨_, h, _⟩ := h; cases h
  | d :: ds, w, h, hb, hq => by
    obtain ⟨⟨D, h1, h2, h3, h4⟩, h5⟩ := h
    obtain ⟨d', hd, e⟩ := hq
    rcases List.mem_cons.1 hd with rfl | hd
    · rw [h1] at e
      injection e with e
      injection e with e
      subst e
      rw [h3] at hb
      cases hb
    · exact h5.notCells hb ⟨d', hd, e⟩
theorem Marks.notBlk {base : Nat} {b : Nat} {t : TypeId} {cs : List Value} {ds : List Deferred} {w : World} (h : Marks base ds w) (hb : Blk w b t cs) : ¬ ∃ d ∈ ds, d = mark b := h.notCells hb
/-- A result, read behind the marks. -/
def ResM (P : Program) (ds : List Deferred) (w : World) (L : Slots) (r : ResultVar) (v : Value) : Prop := ∀ w', OffMarks ds w w' → Res P w' L r v
theorem ResM.tmp {P : Program} {ds : List Deferred} {w : World} {L : Slots} {t : Nat} {v : Value} (h : look t L = some v) : ResM P ds w L (.tmp t) v := fun _ _ => h
theorem ResM.cell {P : Program} {ds : List Deferred} {w : World} {L : Slots} {s t b off base : Nat} {t' : TypeId} {cs : List Value} {v : Value} (hm : Marks base ds w) (hl : look s L = some (.pointer (some ⟨b, off, none⟩))) (ha : ∀ w, (isAgg t).run P w = .ok false w) (hb : Blk w b t' cs) (hv : cs[off]? = some v) : ResM P ds w L (.cell s t) v :=
  fun _w' u => ⟨b, off, hl, run_loadVar1 ha ((hb.keep u (hm.notBlk hb)).get hv)⟩

section steps
variable {P : Program} {N : Nat} {ds : List Deferred} {L : Slots} {w : World}
theorem f_retMc2 {R : Value → World → Prop} {fn : Func} {r1 r2 : ResultVar} {v1 v2 : Value} {base : Nat} (hf : fn.results = #[r1, r2]) (h1 : ResM P ds w L r1 v1) (h2 : ResM P ds w L r2 v2) (hm : Marks base ds w) (hR : ∀ w', Upd (fun i => base ≤ i) w w' → OffMarks ds w w' → R (.tuple #[v1, v2]) w') :
    QK (bodyPostM (rnd none) 3 P fn (fun e w' => ∃ v, e = .returned v ∧ R v w') .ret) N ds L w := by
  refine ⟨fun a ha => ?_⟩
  show LeavesInM (rnd none) 3 P fn a.tmps _ a.defers .returning w
  rw [ha.defers]
  refine leavesInM_marksC ds w (fun w' u => ?_) hm hR
  have e1 := Res.run (h1 w' u) ha
  have e2 := Res.run (h2 w' u) ha
  rw [results_of, hf]
  simp [e1, e2]
end steps
end Go.Proofs.YtagmkfbbhfaceaaGreatDoor
namespace Go.Proofs.YtagmkfbbhfaceaaGreatDoor
open Go Go.RowKit Go.Proofs.Tryz
set_option maxRecDepth 10000
set_option maxHeartbeats 4000000 in
set_option maxRecDepth 20000 in
theorem open_c (xs : List UInt8) (ab : Option Addr) (bb ob cb : Nat) (w0 : World) (hs : Sl encY 1 w0 ab bb ob xs) (hcb : xs.length ≤ cb) (hxl : xs.length ≤ 1000000) (hpos : 0 < w0.heap.size) :
    CallsV Tryz.prog 32 [.slice ab xs.length cb] w0 (fun v w' => (∃ a9 g9 c9, v = .tuple #[.slice a9 (List.length (opP xs)) c9, .int .i64 (opE xs)] ∧ Acc encBk 32 111 w0.heap.size w' a9 g9 c9 (opP xs)) ∧ Ext w0 w') := by
 refine f_enterM (N := 36) func32 rfl rfl rfl (q_of ?_)
 refine go ?_
 refine x_n fun bk2 w3 ebk2 sbk2 B4 u5 => ?_
 have hN0 : Acc encBk 32 111 w0.heap.size w3 none 0 0 ([] : List Bk) := Acc.nil _ _ _ _ _ hpos (by omega)
 have lt_0 := hN0.lt
 refine go ?_
 refine t_quo rfl rfl rfl rfl (by omega) (by omega) (t_same 8 (v := .int .i64 ((xs.length / 32 : Nat) : Int)) rfl (congrArg (Value.int .i64) (by omega)) ?_)
 iterate 5 refine st1 ?_
 refine x_k1 (fun _ => False) [0, 2, 4] (fun (z9 : Bool) => [(9, .bool z9)]) (fun z9 w => (z9 = decide (xs.length % 32 ≠ 0 ∨ xs.length / 32 < 2 ∨ xs.length / 32 % 5 = 1))) (fun K13 hK13 => ?_) ?_
 ·
  refine go ?_
  refine t_rem rfl rfl rfl rfl (by omega) (by omega) ?_
  refine go ?_
  refine t_splitp 14 rfl (fun g14 => ?_) (fun g14 => ?_)
  ·
   refine go ?_
   exact hK13 true (by first | exact (decide_eq_false (by omega)).symm | exact (decide_eq_true (by omega)).symm | exact decide_eq_decide.2 (by omega))
  refine go ?_
  refine t_splitp 18 rfl (fun g18 => ?_) (fun g18 => ?_)
  ·
   refine go ?_
   exact hK13 true (by first | exact (decide_eq_false (by omega)).symm | exact (decide_eq_true (by omega)).symm | exact decide_eq_decide.2 (by omega))
  refine go ?_
  refine t_rem rfl rfl rfl rfl (by omega) (by omega) ?_
  refine go ?_
  exact hK13 (decide ((((xs.length / 32 : Nat) : Int) % 5) = 1)) (by first | exact (decide_eq_false (by omega)).symm | exact (decide_eq_true (by omega)).symm | exact decide_eq_decide.2 (by omega))
 rintro z9 w14 hz9 u15 zu15
 have E16 := Sc.mk (((Upd.refl (fun _ => False) w0).nx u5).nx u15)
 refine q_b (fun g9 => ?_) fun g9 => ?_
 ·
  have hzb : (xs.length % 32 ≠ 0 ∨ xs.length / 32 < 2 ∨ xs.length / 32 % 5 = 1) := by rw [hz9] at g9; exact of_decide_eq_true g9
  refine go ?_
  have B18 := (B4.kx u15)
  refine x_s fun w19 sw19 B21 u20 => ?_
  refine go ?_
  have D25 := ((((show Marks w0.heap.size [] w0 from trivial).keep u5 (CellsIn.none _)).keep u15 (CellsIn.none _)).keep u20 (B18).cellsIn)
  have hmkE := D25
  refine f_retMc2 (v1 := .slice none 0 0) (v2 := .int .i64 4) results32 (.cell D25 rfl isAgg105 B21 rfl) (.tmp rfl) D25 (fun w23 u24 omw23 => ?_)
  have zu24 := u24.size
  have he : opE xs = 4 := by unfold opE; rw [if_pos hzb]
  exact ⟨⟨none, 0, 0, by unfold opP; rw [he]; rfl, by unfold opP; rw [he]; exact (Acc.nil _ _ _ _ _ hpos (by omega))⟩, ((E16.u.next u20 (fun i hi h => by omega)).next u24 (fun i hi (h : w0.heap.size ≤ i) => show False by first | omega | assumption))⟩
 have hzb : ¬ (xs.length % 32 ≠ 0 ∨ xs.length / 32 < 2 ∨ xs.length / 32 % 5 = 1) := by rw [hz9] at g9; exact of_decide_eq_false g9
 refine go ?_
 refine q_p (fun g23 => ?_) fun g23 => ?_
 ·
  refine go ?_
  have B29 := (B4.kx u15)
  refine x_s fun w30 sw30 B32 u31 => ?_
  refine go ?_
  have D36 := ((((show Marks w0.heap.size [] w0 from trivial).keep u5 (CellsIn.none _)).keep u15 (CellsIn.none _)).keep u31 (B29).cellsIn)
  have hmkE := D36
  refine f_retMc2 (v1 := .slice none 0 0) (v2 := .int .i64 5) results32 (.cell D36 rfl isAgg105 B32 rfl) (.tmp rfl) D36 (fun w34 u35 omw34 => ?_)
  have zu35 := u35.size
  have he : opE xs = 5 := by unfold opE; rw [if_neg hzb, if_pos (by omega)]
  exact ⟨⟨none, 0, 0, by unfold opP; rw [he]; rfl, by unfold opP; rw [he]; exact (Acc.nil _ _ _ _ _ hpos (by omega))⟩, ((E16.u.next u31 (fun i hi h => by omega)).next u35 (fun i hi (h : w0.heap.size ≤ i) => show False by first | omega | assumption))⟩
 have hE0 : opE xs = 0 := by unfold opE; rw [if_neg hzb, if_neg (by omega)]
 have hok := opE_ok hE0
 refine go ?_
 refine x_c func75 rfl rfl (chunk_c ab xs.length cb _) ?_
 rintro _ w41 ⟨⟨b1, b2, rfl, hgb1, hgb2, hb1, hb2⟩, u42⟩ zu42
 have E44 := Sc.mk (E16.u.nx u42)
 have lb1 := hb1.lt
 have lb2 := hb2.lt
 refine go ?_
 refine WC.weak [(2, .pointer (some ⟨bk2, 0, none⟩)), (27, .func (.func 124) #[] #[.pointer (some ⟨b1, 0, none⟩), .pointer (some ⟨b2, 0, none⟩)])] ⟨rfl, rfl, trivial⟩ ?_
 have B45 := ((B4.kx u15).kx u42)
 have lbv := B45.lt
 have D46 := ((hN0.keep u15 (fun _ h => h)).keep u42 (fun _ h => h))
 refine c_range (α := (Ix (xs.length / 32))) (lb := [.pointer (some ⟨b1, 0, none⟩), .pointer (some ⟨b2, 0, none⟩)]) (enc := (encCk ab)) (T := fun i => i = bk2 ∨ w41.heap.size ≤ i) own124 rfl rfl (chunk_seq (xs.length / 32) xs.length ab cb b1 b2 _ _ hok.1 (by omega) hcb hb1 hb2 (show ¬ (b1 = bk2 ∨ w41.heap.size ≤ b1) by omega) (show ¬ (b2 = bk2 ∨ w41.heap.size ≤ b2) by omega)) (fun i hi => by omega) (fun pre w => ∃ a3 : Option Addr, ∃ g3 : Nat, ∃ c3 : Nat, ∃ v3 : List Bk, Upd (fun i => i = bk2) w41 w ∧ Blk w bk2 105 [.slice a3 v3.length c3] ∧ (Acc encBk 32 111 w0.heap.size w a3 g3 c3 v3) ∧ (v3 = pre.map (fun k => mk32 (ckP xs k.1))) ∧ (g3 = 0 ∨ w41.heap.size ≤ g3) ∧ (v3.length = pre.length)) (ownFrom_ex (fun a3 => ownFrom_ex (fun g3 => ownFrom_ex (fun c3 => ownFrom_ex (fun v3 => (ownFrom_upd (Nat.le_refl _)).and (ownFrom_blk.and (ownFrom_acc.and ((ownFrom_pure _ _).and ((ownFrom_pure _ _).and (ownFrom_pure _ _)))))))))) ⟨none, 0, 0, [], Upd.refl _ _, B45, D46, rfl, (.inl rfl), rfl⟩ (fun x => [(2, .pointer (some ⟨bk2, 0, none⟩)), (5, .slice (subAddr ab (32 * x.1 + 32) (32 * x.1) 1) 32 32)]) ?_ ?_ ?_
 ·
  intro l pre x W K47 hI hK47
  change WC _ _ _ _ _ _ [(28, .slice (subAddr ab (32 * x.1 + 32) (32 * x.1) 1) 32 32), (2, .pointer (some ⟨bk2, 0, none⟩)), (27, .func (.func 124) #[] #[.pointer (some ⟨b1, 0, none⟩), .pointer (some ⟨b2, 0, none⟩)])] _
  refine (q_of ?_)
  refine go ?_
  exact hK47 _ ⟨rfl, rfl, trivial⟩
 ·
  intro l pre x w48 hI hlen
  obtain ⟨a3, g3, c3, v3, u49, I50, I51, I52, I53, I54⟩ := hI
  change WC _ _ _ _ _ _ [(2, .pointer (some ⟨bk2, 0, none⟩)), (5, .slice (subAddr ab (32 * x.1 + 32) (32 * x.1) 1) 32 32)] _
  refine (q_of ?_)
  have zu49 := u49.size
  have E55 := Sc.mk (E44.u.next u49 (fun i hi h => by omega))
  have hA3 := I51; clear I51
  have hv3 := I52; clear I52
  have hg3 := I53; clear I53
  have hl3 := I54; clear I54
  have lt_g3 := hA3.lt
  have hpl : pre.length < (xs.length / 32) := hlen
  have hck := ck_at ((hs.keep E55.u (fun _ h => h))) hok.1 x.2
  have hcellsR := ((I50).cellsIn.or (hA3).cellsIn)
  refine go ?_
  refine c_drawnM follows (fun i => (i = g3 ∧ w0.heap.size ≤ i) ∨ i = bk2) (.look 1 (.look 2 (.act 0 (.act 3 (.act 4 (.act 5 (.act 6 .done .stop) .stop) .stop) .stop) (.act 3 (.act 0 (.act 4 (.act 5 (.act 6 .done .stop) .stop) .stop) (.act 4 (.act 0 (.act 5 (.act 6 .done .stop) .stop) .stop) .stop)) .stop)))) (by kernel_rfl) fun w56 u57 => ?_
  have zu57 := u57.size
  have E58 := Sc.mk (E55.u.nx u57)
  refine go ?_
  refine y_arrP underlying111 rfl rfl rfl (by decide) (y_same 31 (v := .pointer (some ⟨bb, ob + 32 * x.1, none⟩)) rfl (congrArg Value.pointer hck.1) (s_or ?_ ?_))
  ·
   refine go ?_
   refine t_ldY (l := (mk32 (ckP xs x.1)).l) isAgg111 sizeOf111 rfl rfl rfl (ck_at ((hs.keep E58.u (fun _ h => h))) hok.1 x.2).2 (Bk.h (mk32 (ckP xs x.1))) ?_
   refine go ?_
   refine t_bslice1 (vs := ys ((mk32 (ckP xs x.1)).l)) underlying105 sizeOf111 zeroValue111 (by decide) (by decide) rfl rfl rfl rfl (by rw [ys_length]; exact (Bk.h (mk32 (ckP xs x.1)))) (fun bk59 w60 ebk59 sbk59 B61 u62 => ?_)
   refine go ?_
   have D64 := ((hA3.keep u57 (fun _ h => h)).keep u62 (fun _ h => h))
   refine t_append (z := .agg #[.int .u8 0, .int .u8 0, .int .u8 0, .int .u8 0, .int .u8 0, .int .u8 0, .int .u8 0, .int .u8 0, .int .u8 0, .int .u8 0, .int .u8 0, .int .u8 0, .int .u8 0, .int .u8 0, .int .u8 0, .int .u8 0, .int .u8 0, .int .u8 0, .int .u8 0, .int .u8 0, .int .u8 0, .int .u8 0, .int .u8 0, .int .u8 0, .int .u8 0, .int .u8 0, .int .u8 0, .int .u8 0, .int .u8 0, .int .u8 0, .int .u8 0, .int .u8 0]) (bytes := 32) (k := 32) (base := w0.heap.size) (mk32 (ckP xs x.1)) underlying105 (by kernel_rfl) rfl (by decide) encBk_len encBk_one rfl rfl rfl rfl D64 B61 (by omega) (by omega) (by decide) (fun ao65 gb66 cp67 w68 A69 u70 gegb66 lngb66 => ?_)
   have zu70 := u70.size
   have lt_gb66 := A69.lt
   refine go ?_
   refine x_s fun w73 sw73 B75 u74 => ?_
   refine go ?_
   have hUr := (((((Upd.refl (fun i => i = bk2 ∨ (i = g3 ∧ w0.heap.size ≤ i)) w48).nx u57).nx u62).next u70 (fun i hi h => by omega)).next u74 (fun i hi h => by omega))
   have D77 := (A69.keep u74 (fun hb => show ¬ (gb66 = bk2) by first | omega | assumption))
   exact ⟨fun a ha => ⟨KeepsFrom.of_upd hUr hcellsR, hUr.mono (fun i h => show i = bk2 ∨ w41.heap.size ≤ i by omega), ao65, gb66, cp67, (v3 ++ [(mk32 (ckP xs x.1))]), ((((u49.nx u57).nx u62).next u70 (fun i hi h => by omega)).next u74 (fun i hi h => by omega)), B75, D77, (by rw [List.map_append, hv3]; rfl), (show gb66 = 0 ∨ w41.heap.size ≤ gb66 by omega), (by rw [List.length_append, List.length_append, hl3]; rfl)⟩⟩
  refine go ?_
  refine t_ldY (l := (mk32 (ckP xs x.1)).l) isAgg111 sizeOf111 rfl rfl rfl (ck_at ((hs.keep E58.u (fun _ h => h))) hok.1 x.2).2 (Bk.h (mk32 (ckP xs x.1))) ?_
  refine go ?_
  refine s_or ?_ ?_
  ·
   refine go ?_
   refine t_bslice1 (vs := ys ((mk32 (ckP xs x.1)).l)) underlying105 sizeOf111 zeroValue111 (by decide) (by decide) rfl rfl rfl rfl (by rw [ys_length]; exact (Bk.h (mk32 (ckP xs x.1)))) (fun bk78 w79 ebk78 sbk78 B80 u81 => ?_)
   refine go ?_
   have D83 := ((hA3.keep u57 (fun _ h => h)).keep u81 (fun _ h => h))
   refine t_append (z := .agg #[.int .u8 0, .int .u8 0, .int .u8 0, .int .u8 0, .int .u8 0, .int .u8 0, .int .u8 0, .int .u8 0, .int .u8 0, .int .u8 0, .int .u8 0, .int .u8 0, .int .u8 0, .int .u8 0, .int .u8 0, .int .u8 0, .int .u8 0, .int .u8 0, .int .u8 0, .int .u8 0, .int .u8 0, .int .u8 0, .int .u8 0, .int .u8 0, .int .u8 0, .int .u8 0, .int .u8 0, .int .u8 0, .int .u8 0, .int .u8 0, .int .u8 0, .int .u8 0]) (bytes := 32) (k := 32) (base := w0.heap.size) (mk32 (ckP xs x.1)) underlying105 (by kernel_rfl) rfl (by decide) encBk_len encBk_one rfl rfl rfl rfl D83 B80 (by omega) (by omega) (by decide) (fun ao84 gb85 cp86 w87 A88 u89 gegb85 lngb85 => ?_)
   have zu89 := u89.size
   have lt_gb85 := A88.lt
   refine go ?_
   refine x_s fun w92 sw92 B94 u93 => ?_
   refine go ?_
   have hUr := (((((Upd.refl (fun i => i = bk2 ∨ (i = g3 ∧ w0.heap.size ≤ i)) w48).nx u57).nx u81).next u89 (fun i hi h => by omega)).next u93 (fun i hi h => by omega))
   have D96 := (A88.keep u93 (fun hb => show ¬ (gb85 = bk2) by first | omega | assumption))
   exact ⟨fun a ha => ⟨KeepsFrom.of_upd hUr hcellsR, hUr.mono (fun i h => show i = bk2 ∨ w41.heap.size ≤ i by omega), ao84, gb85, cp86, (v3 ++ [(mk32 (ckP xs x.1))]), ((((u49.nx u57).nx u81).next u89 (fun i hi h => by omega)).next u93 (fun i hi h => by omega)), B94, D96, (by rw [List.map_append, hv3]; rfl), (show gb85 = 0 ∨ w41.heap.size ≤ gb85 by omega), (by rw [List.length_append, List.length_append, hl3]; rfl)⟩⟩
  refine go ?_
  refine t_bslice1 (vs := ys ((mk32 (ckP xs x.1)).l)) underlying105 sizeOf111 zeroValue111 (by decide) (by decide) rfl rfl rfl rfl (by rw [ys_length]; exact (Bk.h (mk32 (ckP xs x.1)))) (fun bk97 w98 ebk97 sbk97 B99 u100 => ?_)
  refine go ?_
  have D102 := ((hA3.keep u57 (fun _ h => h)).keep u100 (fun _ h => h))
  refine t_append (z := .agg #[.int .u8 0, .int .u8 0, .int .u8 0, .int .u8 0, .int .u8 0, .int .u8 0, .int .u8 0, .int .u8 0, .int .u8 0, .int .u8 0, .int .u8 0, .int .u8 0, .int .u8 0, .int .u8 0, .int .u8 0, .int .u8 0, .int .u8 0, .int .u8 0, .int .u8 0, .int .u8 0, .int .u8 0, .int .u8 0, .int .u8 0, .int .u8 0, .int .u8 0, .int .u8 0, .int .u8 0, .int .u8 0, .int .u8 0, .int .u8 0, .int .u8 0, .int .u8 0]) (bytes := 32) (k := 32) (base := w0.heap.size) (mk32 (ckP xs x.1)) underlying105 (by kernel_rfl) rfl (by decide) encBk_len encBk_one rfl rfl rfl rfl D102 B99 (by omega) (by omega) (by decide) (fun ao103 gb104 cp105 w106 A107 u108 gegb104 lngb104 => ?_)
  have zu108 := u108.size
  have lt_gb104 := A107.lt
  refine go ?_
  refine x_s fun w111 sw111 B113 u112 => ?_
  refine go ?_
  have hUr := (((((Upd.refl (fun i => i = bk2 ∨ (i = g3 ∧ w0.heap.size ≤ i)) w48).nx u57).nx u100).next u108 (fun i hi h => by omega)).next u112 (fun i hi h => by omega))
  have D115 := (A107.keep u112 (fun hb => show ¬ (gb104 = bk2) by first | omega | assumption))
  exact ⟨fun a ha => ⟨KeepsFrom.of_upd hUr hcellsR, hUr.mono (fun i h => show i = bk2 ∨ w41.heap.size ≤ i by omega), ao103, gb104, cp105, (v3 ++ [(mk32 (ckP xs x.1))]), ((((u49.nx u57).nx u100).next u108 (fun i hi h => by omega)).next u112 (fun i hi h => by omega)), B113, D115, (by rw [List.map_append, hv3]; rfl), (show gb104 = 0 ∨ w41.heap.size ≤ gb104 by omega), (by rw [List.length_append, List.length_append, hl3]; rfl)⟩⟩
 ·
  have hmk0 := ((show Marks w0.heap.size [] w0 from trivial).keep ((((Upd.refl (fun _ => False) _).nx u5).nx u15).nx u42) (CellsIn.none _))
  have hmc0 := (B45).cellsIn
  intro D118 ks w116 hD118 hS hI hdD118
  obtain ⟨a3, g3, c3, v3, u117, I119, I120, I121, I122, I123⟩ := hI
  have zu117 := u117.size
  have hA3 := I120; clear I120
  have hv3 := I121; clear I121
  have hg3 := I122; clear I122
  have hl3 := I123; clear I123
  have lt_g3 := hA3.lt
  have mk125 := (hmk0.keep u117 hmc0).push (D := D118) (by omega) hdD118 (fun d hd D' e => Nat.lt_of_lt_of_le (hmk0.lt d hd D' e) hD118)
  have hvk : v3 = blksP xs (xs.length / 32) := by
    rw [hv3]
    unfold blksP
    rw [← hS, List.map_map]; rfl
  refine go ?_
  refine x_s fun w127 sw127 B129 u128 => ?_
  refine go ?_
  have D131 := (hA3.keep u128 (fun hb => show ¬ (g3 = bk2) by first | omega | assumption))
  have D134 := (mk125.keep u128 (I119).cellsIn)
  have hmkE := D134
  refine f_retMc2 (v1 := .slice a3 v3.length c3) (v2 := .int .i64 0) results32 (.cell D134 rfl isAgg105 B129 rfl) (.tmp rfl) D134 (fun w132 u133 omw132 => ?_)
  have zu133 := u133.size
  have hacW := D131.keep omw132 (fun hb9 hd9 => by
    rcases (D131).at_ with ⟨_, _, _, h6⟩ | ⟨_, _, cur, h7, _⟩
    · omega
    · exact hmkE.notCells h7 hd9)
  have hop : opP xs = v3 := by unfold opP; rw [if_pos hE0, hvk]
  exact ⟨⟨a3, g3, c3, by rw [hop, hE0], by rw [hop]; exact hacW⟩, (((E44.u.next u117 (fun i hi h => by omega)).next u128 (fun i hi h => by omega)).next u133 (fun i hi (h : w0.heap.size ≤ i) => show False by first | omega | assumption))⟩

end Go.Proofs.YtagmkfbbhfaceaaGreatDoor
namespace Go.Proofs.YtagmkfbbhfaceaaGreatDoor
open Go Go.RowKit Go.Proofs.Tryz
set_option maxRecDepth 10000
/-! ### damaged blocks are restored -/
def gF (k : Nat) : Nat := k - k % 5
def gL (n k : Nat) : Nat := min (gF k + 4) (n - 1)
def badB (v : List Bk) (k : Nat) : Bool := !decide ((nth v k).l.drop 30 = chkP (nth v k).l k)
def badP (v : List Bk) : List Nat := (List.range v.length).filter (badB v)
def nats (l : List Nat) : List Int := l.map fun k : Nat => (k : Int)
def mixG (v : List Bk) (k f : Nat) : Nat → Bk
  | 0 => zeroBk
  | n + 1 => if f + n = k then mixG v k f n else (mixG v k f n).mix (nth v (f + n))
def rst (v : List Bk) (k : Nat) : Bk := (mixG v k (gF k) (gL v.length k + 1 - gF k)).shutB k
def fixG (p : Int) (v : List Bk) : List Nat → Option (List Bk)
  | [] => some v
  | k :: r => if ((gF k : Nat) : Int) ≤ p then none else fixG (k : Int) (v.set k (rst v k)) r
/-- what Repair returns -/
def repR (b : List UInt8) : List UInt8 × List Int × Int :=
  if opE b ≠ 0 then ([], [], opE b) else match fixG (-1) (opP b) (badP (opP b)) with
    | none => ([], [], 121)
    | some v => (bytesP v, nats (badP (opP b)), 0)
theorem filter_succ {p : Nat → Bool} (k : Nat) : (List.range (k + 1)).filter p = (List.range k).filter p ++ (if p k then [k] else []) := by
  rw [List.range_succ, List.filter_append]
  cases h : p k <;> simp [h]
theorem nats_nth {l : List Nat} {i : Nat} (h : i < l.length) : nth (nats l) i = ((nth l i : Nat) : Int) := by
  unfold nats
  rw [nth_eq (by rw [List.length_map]; exact h), List.getElem_map, nth_eq h]
theorem nats_len (l : List Nat) : (nats l).length = l.length := List.length_map _
theorem badP_mem {v : List Bk} {k : Nat} (h : k ∈ badP v) : k < v.length ∧ badB v k = true := by
  unfold badP at h
  rw [List.mem_filter, List.mem_range] at h
  exact h
theorem badP_le (v : List Bk) : (badP v).length ≤ v.length := by
  unfold badP
  have := List.length_filter_le (badB v) (List.range v.length)
  rwa [List.length_range] at this
def prevI (l : List Nat) (i : Nat) : Int := if i = 0 then -1 else ((nth l (i - 1) : Nat) : Int)
theorem fix_none {p : Int} {v : List Bk} {k : Nat} {r : List Nat} (h : ((gF k : Nat) : Int) ≤ p) : fixG p v (k :: r) = none := by
  show (if _ then _ else _) = _
  rw [if_pos h]
theorem fix_step {p : Int} {v : List Bk} {k : Nat} {r : List Nat} (h : ¬ ((gF k : Nat) : Int) ≤ p) : fixG p v (k :: r) = fixG (k : Int) (v.set k (rst v k)) r := by
  show (if _ then _ else _) = _
  rw [if_neg h]
theorem gF_le (k : Nat) : gF k ≤ k := Nat.sub_le _ _
theorem group_c (n k : Nat) (av : Option Addr) (cv : Nat) (w0 : World) (hn : 1 ≤ n ∧ n ≤ 1000000) (hk : k ≤ 1000000) :
    CallsV Tryz.prog 34 [.slice av n cv, .int .i64 (k : Int)] w0 (fun v w' => v = .tuple #[.int .i64 ((gF k : Nat) : Int), .int .i64 ((gL n k : Nat) : Int)] ∧ Ext w0 w') := by
 obtain ⟨hn1, hn2⟩ := hn
 have hf : ((gF k : Nat) : Int) = (k : Int) - (k : Int) % 5 := by unfold gF; omega
 have hl : ((gL n k : Nat) : Int) = min ((k : Int) - (k : Int) % 5 + 4) ((n : Int) - 1) := by unfold gL gF; omega
 refine f_n func34 ?_
 refine go ?_
 refine t_rem rfl rfl rfl rfl (by omega) (by omega) ?_
 refine go ?_
 refine t_min rfl rfl rfl rfl ?_
 refine go ?_
 refine f_ret2 (v1 := .int .i64 ((k : Int) - ((k : Int) % 5))) (v2 := .int .i64 (min (((k : Int) - ((k : Int) % 5)) + 4) ((n : Int) - 1))) results34 rfl rfl ?_
 exact ⟨by rw [hf, hl], u_d⟩

set_option maxHeartbeats 4000000 in
theorem Repair_c (xs : List UInt8) (ab : Option Addr) (bb ob cb : Nat) (w0 : World) (hs : Sl encY 1 w0 ab bb ob xs) (hcb : xs.length ≤ cb) (hxl : xs.length ≤ 1000000) (hpos : 0 < w0.heap.size) :
    CallsV Tryz.prog 10 [.slice ab xs.length cb] w0 (fun v w' => (∃ a9 g9 c9 a8 g8 c8, v = .tuple #[.slice a9 (List.length (repR xs).1) c9, .slice a8 (List.length (repR xs).2.1) c8, .int .i64 (repR xs).2.2] ∧ Acc encY 1 5 w0.heap.size w' a9 g9 c9 (repR xs).1 ∧ Acc encI 1 3 w0.heap.size w' a8 g8 c8 (repR xs).2.1) ∧ Ext w0 w') := by
 refine f_n func10 ?_
 refine go ?_
 refine x_c func32 rfl rfl (open_c xs ab bb ob cb _ hs hcb (by omega) (by omega)) ?_
 rintro _ w4 ⟨⟨aO, gO, cO, rfl, hFO⟩, u5⟩ zu5
 have lt_gO := hFO.lt
 refine go ?_
 refine q_p (fun g19 => ?_) fun g19 => ?_
 ·
  refine go ?_
  refine f_ret3 (v1 := .slice none 0 0) (v2 := .slice none 0 0) (v3 := .int .i64 (opE xs)) results10 rfl rfl rfl ?_
  have he : repR xs = ([], [], opE xs) := by unfold repR; rw [if_pos g19]
  exact ⟨⟨none, 0, 0, none, 0, 0, by rw [he]; rfl, by rw [he]; exact (Acc.nil _ _ _ _ _ hpos (by omega)), by rw [he]; exact (Acc.nil _ _ _ _ _ hpos (by omega))⟩, u_d⟩
 have hE0 : opE xs = 0 := by omega
 have hok := opE_ok hE0
 have hVl : (opP xs).length = xs.length / 32 := by unfold opP; rw [if_pos hE0, blksP_len]
 have hglO := hFO.lt
 refine go ?_
 refine x_l2 (fun i => w4.heap.size ≤ i) [5, 22] (fun (k : Nat) (q : (Option Addr × Nat × Nat)) => [(3, .slice q.1 ((nats ((List.range k).filter (badB (opP xs)))).length) q.2.2), (23, .int .i64 (k : Int))]) (fun k q w => (k ≤ (opP xs).length) ∧ (Acc encI 1 3 w0.heap.size w q.1 q.2.1 q.2.2 (nats ((List.range k).filter (badB (opP xs))))) ∧ (q.2.1 = 0 ∨ w4.heap.size ≤ q.2.1)) (fun k q => (opP xs).length - k) 0 (none, 0, 0) ⟨(Nat.zero_le _), (Acc.nil _ _ _ _ _ hpos (by omega)), (.inl rfl)⟩ ?_
 rintro k q w14 ⟨hk, hA, hqW⟩ u15 zu15 K13 hK13
 have lt_q_2_1 := hA.lt
 have hgl := hA.lt
 have hlk : (nats ((List.range k).filter (badB (opP xs)))).length ≤ k := by rw [nats_len]; have h9 := List.length_filter_le (badB (opP xs)) (List.range k); rwa [List.length_range] at h9
 refine go ?_
 refine q_p (fun g24 => ?_) fun g24 => ?_
 ·
  refine go ?_
  have D22 := (hFO.keep u15 (fun hb => show ¬ (w4.heap.size ≤ gO) by first | omega | assumption))
  refine g_i k (D22.sl encBk_len) (fun _ => ?_)
  refine go ?_
  refine x_c func33 rfl rfl (isSound_c gO (0 + k * 32) ((nth (opP xs) k).l) k _ (Bk.h _) ((D22.sl encBk_len).at_ k (by omega)) (by omega) (by omega)) ?_
  rintro _ w25 ⟨rfl, u26⟩ zu26
  refine go ?_
  refine q_p (fun g31 => ?_) fun g31 => ?_
  ·
   refine go ?_
   refine x_l fun bk29 w30 ebk29 sbk29 B31 u32 => ?_
   have D34 := ((hA.keep u26 (fun _ h => h)).keep u32 (fun _ h => h))
   refine t_append (z := .int .i64 0) (bytes := 8) (k := 1) (base := w0.heap.size) (k : Int) underlying28 (by kernel_rfl) rfl (by decide) (fun _ => rfl) (by intro x; simp [encI, Value.oneCell']) rfl rfl rfl rfl D34 B31 (by omega) (by omega) (by decide) (fun ao35 gb36 cp37 w38 A39 u40 gegb36 lngb36 => ?_)
   have zu40 := u40.size
   have lt_gb36 := A39.lt
   refine go ?_
   have hst9 : (nats ((List.range (k + 1)).filter (badB (opP xs)))) = ((nats ((List.range k).filter (badB (opP xs)))) ++ [(k : Int)]) := by
     rw [filter_succ]
     unfold nats
     rw [List.map_append, if_pos (by unfold badB; simpa using g31)]
     simp
   exact hK13 (k + 1) (ao35, gb36, cp37) ⟨(by omega), (by rw [hst9]; exact A39), (show gb36 = 0 ∨ w4.heap.size ≤ gb36 by omega)⟩ (hs := by exact ⟨(by rw [hst9]; rfl), rfl, rfl, rfl, trivial⟩)
  refine go ?_
  have hst9 : (nats ((List.range (k + 1)).filter (badB (opP xs)))) = (nats ((List.range k).filter (badB (opP xs)))) := by
    rw [filter_succ]
    unfold nats
    rw [List.map_append, if_neg (by unfold badB; simpa using g31)]
    simp
  have D42 := (hA.keep u26 (fun _ h => h))
  exact hK13 (k + 1) (q.1, q.2.1, q.2.2) ⟨(by omega), (by rw [hst9]; exact D42), (show q.2.1 = 0 ∨ w4.heap.size ≤ q.2.1 by omega)⟩ (hs := by exact ⟨(by rw [hst9]; rfl), rfl, rfl, rfl, trivial⟩)
 have hLT : (nats ((List.range k).filter (badB (opP xs)))) = nats (badP (opP xs)) := by rw [show k = (opP xs).length by omega]; rfl
 rw [hLT] at hA ⊢
 have hbl9 := badP_le (opP xs)
 have hnl := nats_len (badP (opP xs))
 have lt_q_2_1 := hA.lt
 refine go ?_
 have D45 := (hFO.keep u15 (fun hb => show ¬ (w4.heap.size ≤ gO) by first | omega | assumption))
 refine x_l2 (fun i => (i = gO ∧ w0.heap.size ≤ i)) [5, 37, 38] (fun (i : Nat) (Wv : List Bk) => [(3, .slice q.1 ((nats (badP (opP xs))).length) q.2.2), (39, .int .i64 (i : Int))]) (fun i Wv w => (i ≤ (badP (opP xs)).length) ∧ (Acc encBk 32 111 w0.heap.size w aO gO cO Wv) ∧ (Wv.length = (opP xs).length) ∧ (fixG (-1) (opP xs) (badP (opP xs)) = fixG (prevI (badP (opP xs)) i) Wv ((badP (opP xs)).drop i))) (fun i Wv => (badP (opP xs)).length - i) 0 (opP xs) ⟨(Nat.zero_le _), D45, rfl, rfl⟩ ?_
 rintro i Wv w47 ⟨hi, hW, hWl, hfx⟩ u48 zu48 K46 hK46
 have lt_gO := hW.lt
 have hWlt := hW.lt
 refine go ?_
 refine q_p (fun g40 => ?_) fun g40 => ?_
 ·
  have hVp : 0 < Wv.length := by omega
  have hgOb := hW.ge hVp
  obtain ⟨kk, hkk⟩ : ∃ kk, kk = nth (badP (opP xs)) i := ⟨_, rfl⟩
  have hkl := badP_mem (nth_mem (show i < (badP (opP xs)).length by omega))
  rw [← hkk] at hkl
  have hdr : (badP (opP xs)).drop i = kk :: (badP (opP xs)).drop (i + 1) := by rw [hkk, drop_nth (show i < (badP (opP xs)).length by omega)]
  obtain ⟨ff, hff⟩ : ∃ f, f = gF kk := ⟨_, rfl⟩
  obtain ⟨ll, hll⟩ : ∃ l, l = gL Wv.length kk := ⟨_, rfl⟩
  have hfl := gF_le kk
  have hl2 : ff ≤ ll + 1 ∧ ll < Wv.length ∧ ll ≤ ff + 4 := by rw [hll, hff]; unfold gL; omega
  refine go ?_
  have D54 := (hA.keep u48 (fun hb => show ¬ ((q.2.1 = gO ∧ w0.heap.size ≤ q.2.1)) by first | omega | assumption))
  refine g_i i (D54.sl (fun _ => rfl)) (fun _ => ?_)
  refine st1 ?_
  refine t_same 43 (v := .int .i64 (kk : Int)) rfl (congrArg (Value.int .i64) (by rw [nats_nth (by omega), hkk])) ?_
  refine go ?_
  refine x_c func34 rfl rfl (by have h9 := group_c Wv.length kk aO cO w47 (by omega) (by omega); rw [← hff, ← hll, hWl] at h9; exact h9) ?_
  rintro _ w58 ⟨rfl, u59⟩ zu59
  iterate 8 refine st1 ?_
  refine x_k1 (fun _ => False) [3, 5, 8, 9, 10, 37, 38, 39] (fun (z9 : Bool) => [(60, .bool z9)]) (fun z9 w => (z9 = decide (0 < i ∧ (ff : Int) ≤ nth (nats (badP (opP xs))) (i - 1)))) (fun K67 hK67 => ?_) ?_
  ·
   refine go ?_
   refine t_splitp 52 rfl (fun g52 => ?_) (fun g52 => ?_)
   ·
    refine go ?_
    have D70 := (D54.keep u59 (fun _ h => h))
    refine g_i (i - 1) (D70.sl (fun _ => rfl)) (fun _ => ?_)
    refine go ?_
    exact hK67 (decide ((ff : Int) ≤ (nth (nats (badP (opP xs))) (i - 1)))) (by first | exact (decide_eq_false (by omega)).symm | exact (decide_eq_true (by omega)).symm | exact decide_eq_decide.2 (by omega))
   refine go ?_
   exact hK67 false (by first | exact (decide_eq_false (by omega)).symm | exact (decide_eq_true (by omega)).symm | exact decide_eq_decide.2 (by omega))
  rintro z9 w68 hz9 u69 zu69
  refine q_b (fun g60 => ?_) fun g60 => ?_
  ·
   have hzb : (0 < i ∧ (ff : Int) ≤ nth (nats (badP (opP xs))) (i - 1)) := by rw [hz9] at g60; exact of_decide_eq_true g60
   refine go ?_
   refine f_ret3 (v1 := .slice none 0 0) (v2 := .slice none 0 0) (v3 := .int .i64 121) results10 rfl rfl rfl ?_
   have hE1 : ¬ opE xs ≠ 0 := by omega
   have hfn : fixG (-1) (opP xs) (badP (opP xs)) = none := by rw [hfx, hdr]; exact fix_none (by unfold prevI; rw [if_neg (by omega)]; have h8 := hzb.2; rw [nats_nth (by omega), hff] at h8; exact h8)
   have he : repR xs = ([], [], 121) := by unfold repR; rw [if_neg hE1, hfn]
   exact ⟨⟨none, 0, 0, none, 0, 0, by rw [he]; rfl, by rw [he]; exact (Acc.nil _ _ _ _ _ hpos (by omega)), by rw [he]; exact (Acc.nil _ _ _ _ _ hpos (by omega))⟩, u_d⟩
  have hzb : ¬ (0 < i ∧ (ff : Int) ≤ nth (nats (badP (opP xs))) (i - 1)) := by rw [hz9] at g60; exact of_decide_eq_false g60
  refine go ?_
  refine t_alloc (cs := (ys (List.replicate 32 (0 : UInt8)))) zeroValue111 (by kernel_rfl) rfl rfl (fun bk75 w76 ebk75 sbk75 B77 u78 => ?_)
  refine go ?_
  refine x_l2 (fun i => i = bk75) [3, 5, 8, 10, 11, 37, 38, 39] (fun (o : Nat) (B : Bk) => [(12, .int .i64 (o : Int))]) (fun o B w => Blk w bk75 111 (ys B.l) ∧ (ff ≤ o) ∧ (o ≤ ll + 1) ∧ (B = mixG Wv kk ff (o - ff))) (fun o B => ll + 1 - o) ff zeroBk ⟨B77, (Nat.le_refl _), (by omega), (by rw [Nat.sub_self]; rfl)⟩ ?_
  rintro o B w83 ⟨I85, hfo, hol, hB9⟩ u84 zu84 K82 hK82
  refine go ?_
  refine q_p (fun g64 => ?_) fun g64 => ?_
  ·
   refine go ?_
   refine q_p (fun g69 => ?_) fun g69 => ?_
   ·
    refine go ?_
    have D91 := ((((hW.keep u59 (fun _ h => h)).keep u69 (fun _ h => h)).keep u78 (fun _ h => h)).keep u84 (fun hb => show ¬ (gO = bk75) by first | omega | assumption))
    refine g_i o (D91.sl encBk_len) (fun _ => ?_)
    refine t_ldY (l := (nth Wv o).l) isAgg111 sizeOf111 rfl rfl rfl ((D91.sl encBk_len).at_ o (by omega)) (Bk.h (nth Wv o)) ?_
    refine x_c func35 rfl rfl (mix_c bk75 B.l ((nth Wv o).l) _ (Bk.h B) (Bk.h (nth Wv o)) I85) ?_
    rintro v94 w95 ⟨hm93, u96⟩ zu96
    refine go ?_
    exact hK82 (o + 1) (B.mix (nth Wv o)) ⟨hm93, (by omega), (by omega), (by rw [show o + 1 - ff = (o - ff) + 1 by omega]; unfold mixG; rw [if_neg (by omega), ← hB9, show ff + (o - ff) = o by omega])⟩
   refine go ?_
   exact hK82 (o + 1) B ⟨I85, (by omega), (by omega), (by rw [show o + 1 - ff = (o - ff) + 1 by omega]; unfold mixG; rw [if_pos (by omega), ← hB9])⟩
  refine go ?_
  refine x_c func36 rfl rfl (seal_c bk75 B.l kk _ (Bk.h B) I85 (by omega)) ?_
  rintro v101 w102 ⟨hs100, u103⟩ zu103
  refine go ?_
  refine t_ldY (l := (B.shutB kk).l) isAgg111 sizeOf111 rfl rfl rfl hs100.at (Bk.h (B.shutB kk)) ?_
  have D106 := (((((hW.keep u59 (fun _ h => h)).keep u69 (fun _ h => h)).keep u78 (fun _ h => h)).keep u84 (fun hb => show ¬ (gO = bk75) by first | omega | assumption)).keep u103 (fun hb => show ¬ (gO = bk75) by first | omega | assumption))
  refine g_i kk (D106.sl encBk_len) (fun _ => ?_)
  refine t_storeA (vs := ys ((B.shutB kk).l)) (j := kk) (o' := 0) (k := 32) (B.shutB kk) encBk_len sizeOf111 rfl rfl (by omega) rfl D106 (by omega) rfl (by rw [ys_length]; exact Bk.h _) (by decide) (ys_one _) (lay_all _ _ (((ys_length _).trans (Bk.h _)).trans (encBk_len _).symm)).symm (fun w108 R110 u109 => ?_)
  have zu109 := u109.size
  refine go ?_
  have hnp : ¬ ((gF kk : Nat) : Int) ≤ prevI (badP (opP xs)) i := by
    unfold prevI
    by_cases h9 : i = 0
    · rw [if_pos h9]; omega
    · rw [if_neg h9]; intro h8; exact hzb ⟨by omega, by rw [nats_nth (by omega), hff]; exact h8⟩
  have hrst : rst Wv kk = B.shutB kk := by
    unfold rst
    rw [← hff, ← hll, hB9, show ll + 1 - ff = o - ff by omega]
  exact hK46 (i + 1) (Wv.set kk (B.shutB kk)) ⟨(by omega), R110, (by rw [List.length_set]; exact hWl), (by rw [hfx, hdr, fix_step hnp, show prevI (badP (opP xs)) (i + 1) = (kk : Int) by unfold prevI; rw [if_neg (by omega), Nat.add_sub_cancel, ← hkk]]; rw [hrst])⟩
 have hil : i = (badP (opP xs)).length := by omega
 rw [hil, List.drop_length] at hfx
 iterate 9 refine st1 ?_
 refine t_same 82 (v := .slice aO Wv.length cO) rfl (by rw [hWl]) ?_
 refine x_c func31 rfl rfl (bytes_c Wv aO gO 0 cO _ (hW.sl encBk_len) (by omega) (by omega)) ?_
 rintro _ w115 ⟨⟨ay113, gy113, cy113, rfl, hFy113⟩, u116⟩ zu116
 have lt_gy113 := hFy113.lt
 refine go ?_
 refine f_ret3 (v1 := .slice ay113 ((bytesP Wv).length) cy113) (v2 := .slice q.1 ((nats (badP (opP xs))).length) q.2.2) (v3 := .int .i64 0) results10 rfl rfl rfl ?_
 have D119 := ((hA.keep u48 (fun hb => show ¬ ((q.2.1 = gO ∧ w0.heap.size ≤ q.2.1)) by first | omega | assumption)).keep u116 (fun _ h => h))
 have hE1 : ¬ opE xs ≠ 0 := by omega
 have he : repR xs = (bytesP Wv, nats (badP (opP xs)), 0) := by unfold repR; rw [if_neg hE1, hfx]; rfl
 obtain ⟨gz, hz⟩ := Acc.lower (base' := w0.heap.size) hFy113 (by omega) hpos
 exact ⟨⟨ay113, gz, cy113, q.1, q.2.1, q.2.2, by rw [he], by rw [he]; exact hz, by rw [he]; exact D119⟩, u_d⟩

end Go.Proofs.YtagmkfbbhfaceaaGreatDoor
