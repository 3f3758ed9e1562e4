/-
  Part 9 of the proof: contracts and plain laws. Conditions: none.
-/
import Derived.Test.YtclinbbghnebaaaGreatCK8
namespace Go.Proofs.YtclinbbghnebaaaGreat
open Go Go.RowKit

/-- How a round ends that may leave. -/
def postL (B : Nat) (Z Zf : World → Prop) (W : World) : Exit → Act → World → Prop
  | .normal, _, W' => KeepsFrom B W W' ∧ Z W'
  | .ret, _, W' => KeepsFrom B W W' ∧ Zf W'
  | _, _, _ => False

/-- What an iterator is given: at each place where Y holds it may hand out the element; Z holds behind it, or it is told to end, and Zf holds; the loop's own blocks l and D are left alone. -/
structure HandsL {γ : Type} (P : Program) (l D : Nat) (enc : γ → Value) (Y Z Zf : γ → World → Prop) (R Rf : World → Prop) : Prop where
  keep : ∀ {W W' : World} {S : Nat → Prop}, R W → Upd S W W' → ¬ S l → ¬ S D → R W'
  keepf : ∀ {W W' : World} {S : Nat → Prop}, Rf W → Upd S W W' → ¬ S l → ¬ S D → Rf W'
  cell : ∀ {W : World} {b : Nat} {t : TypeId} {cs : List Value}, R W → Blk W b t cs → b ≠ l ∧ b ≠ D
  hand : ∀ x W, Y x W → R W → YieldAt Fence.wide 3 P l #[enc x] W fun e W' => (e = .returned (.bool true) ∧ Z x W' ∧ R W') ∨ (e = .returned (.bool false) ∧ Zf x W' ∧ Rf W')

section
variable {P : Program} {Q : Exit → Act → World → Prop} {N : Nat} {ds : List Deferred} {L : Slots} {w : World}

theorem c_rangeL {γ : Type} {go : Operand} {p : Nat} {assign body : Code} {gf : Nat} {lb : List Value} {enc : γ → Value} (ho : Own P gf)
    (hp : Nat.blt p N = true) (hg : ev L go = some (.func (.func gf) #[] lb.toArray))
    (Y Z Zf : γ → World → Prop) (E Ef : World → Prop) (hZo : Turned (w.heap.size + 1) Z) (hZfo : Turned (w.heap.size + 1) Zf) (hEo : Turned (w.heap.size + 1) (fun (_ : Unit) W => E W)) (hEfo : Turned (w.heap.size + 1) (fun (_ : Unit) W => Ef W))
    (hiter : ∀ (l D : Nat) (R Rf : World → Prop) (W : World), D = w.heap.size → l = w.heap.size + 1 → W.heap.size = w.heap.size + 2 → Ext w W → HandsL P l D enc Y Z Zf R Rf → R W →
      CallsV P gf (.func (.yield l) #[] #[] :: lb) W (fun _ W' => (E W' ∧ R W') ∨ (Ef W' ∧ Rf W')))
    {δ : Type} (La : γ → δ → Slots) (Y' : γ → δ → World → Prop) (hYo' : ∀ d, Turned (w.heap.size + 1) (fun x W => Y' x d W))
    (hassign : ∀ (l : Nat) (x : γ) (W : World) (K : Act → World → Prop), Y x W → (∀ d L' W', Sub (La x d) L' → Ext W W' → Y' x d W' → QK K N [] L' W') → WC (some l) P (Exit.then K (fun _ _ _ => False)) N [] assign ((p, enc x) :: L) W)
    (hbody : ∀ (l : Nat) (x : γ) (d : δ) (W : World), Y' x d W → WC (some l) P (postL w.heap.size (Z x) (Zf x) W) N [] body (La x d) W)
    (hleft : ∀ (D : Nat) (W : World), w.heap.size ≤ D → Ef W → W.heap[D]? = some (.deferred (some [])) → QK (Q .ret) N (mark D :: ds) L W)
    (hdone : ∀ (D : Nat) (W : World), w.heap.size ≤ D → E W → W.heap[D]? = some (.deferred (some [])) → QK (Q .normal) N (mark D :: ds) L W) :
    WC none P Q N ds (.rangeFunc go #[p] assign body) L w := by
  refine ⟨fun a ha => ?_⟩
  refine wpIn_rangeFunc (F := Fence.wide) (n := 3) fun fn hfn => ?_
  let rec_ : LoopState → Option Code → Loop := fun st pd => { state := st, pending := pd, fn, tmps := a.tmps, params := #[p], assign, body, defers := w.heap.size }
  have hsz : ((w.alloc (.deferred (some []))).alloc (.loop (rec_ .ready none))).heap.size = w.heap.size + 2 := by simp
  have hD1 : ((w.alloc (.deferred (some []))).alloc (.loop (rec_ .ready none))).heap[w.heap.size]? = some (.deferred (some [])) :=
    ((Upd.alloc (w.alloc (.deferred (some []))) (.loop (rec_ .ready none))).block _ (by simp) id).trans (World.alloc_heap_new w _)
  have hL1 : ((w.alloc (.deferred (some []))).alloc (.loop (rec_ .ready none))).heap[w.heap.size + 1]? = some (.loop (rec_ .ready none)) := by
    have := World.alloc_heap_new (w.alloc (.deferred (some []))) (.loop (rec_ .ready none)); rwa [World.size_alloc] at this
  have hE1 : Ext w ((w.alloc (.deferred (some []))).alloc (.loop (rec_ .ready none))) := (Upd.alloc _ _).trans (Upd.alloc _ _)
  refine ⟨w.heap.size + 1, [{ target := .collected w.heap.size, args := #[] }], (w.alloc (.deferred (some []))).alloc (.loop (rec_ .ready none)), { target := .fn (.func gf) lb.toArray, args := #[.func (.yield (w.heap.size + 1)) #[] #[]] }, (w.alloc (.deferred (some []))).alloc (.loop (rec_ .ready none)), gf,
    #[.func (.yield (w.heap.size + 1)) #[] #[]] ++ lb.toArray, (w.alloc (.deferred (some []))).alloc (.loop (rec_ .ready none)), ?_, ?_, fun _ _ => trivial, ?_, fun _ => by decide, ?_⟩
  · exact run_enterLoop_outer _ _ _ _ _
  · simp only [resolve, ha.ev hg]
    simp [go_sem]
  · simp [invoke, go_sem, ho.run]
  · have hH : HandsL P (w.heap.size + 1) w.heap.size enc Y Z Zf (fun W => W.heap[w.heap.size + 1]? = some (.loop (rec_ .ready none)) ∧ W.heap[w.heap.size]? = some (.deferred (some []))) (fun W => W.heap[w.heap.size + 1]? = some (.loop (rec_ .done (some .ret))) ∧ W.heap[w.heap.size]? = some (.deferred (some []))) := by
      refine ⟨fun {W W' S} h u h1 h2 => ⟨(u.block _ (lt_of_block h.1) h1).trans h.1, (u.block _ (lt_of_block h.2) h2).trans h.2⟩, fun {W W' S} h u h1 h2 => ⟨(u.block _ (lt_of_block h.1) h1).trans h.1, (u.block _ (lt_of_block h.2) h2).trans h.2⟩, fun {W b t cs} h hb => ⟨fun e => ?_, fun e => ?_⟩, ?_⟩
      · subst e; unfold Blk at hb; rw [h.1] at hb; cases hb
      · subst e; unfold Blk at hb; rw [h.2] at hb; cases hb
      rintro x W hy ⟨hl, hd⟩
      have hyl := run_yield (P := P) (args := #[enc x]) hl rfl
      refine ⟨fn, _, assign, body, hyl, roundIn_of_wpIn (F := Fence.wide) (n := 3) hfn ?_⟩
      have hk : Kn N [] ((p, enc x) :: L) { tmps := (#[p].zip #[enc x]).foldl (fun t (p, v) => t.setIfInBounds p v) a.tmps, defers := [] } := by
        have h1 : Kn N [] L { a with defers := [] } := ⟨ha.size, rfl, ha.get⟩
        have h2 := h1.put (enc x) hp
        refine ⟨by simpa [Act.put] using h2.size, rfl, fun k v hv => ?_⟩
        have := h2.get k v hv
        simpa [Act.put] using this
      refine hassign (w.heap.size + 1) x W _ hy (fun δ L' W hs hu hy' => ⟨fun a' ha' => ?_⟩) _ hk
      replace hl := (hu.block _ (lt_of_block hl) (fun h => h)).trans hl
      replace hd := (hu.block _ (lt_of_block hd) (fun h => h)).trans hd
      have hlt := lt_of_block hl
      refine ⟨_, run_beginRound hl rfl, ?_⟩
      have hl2 : (W.putObj (w.heap.size + 1) (.loop { rec_ .ready none with state := .busy })).heap[w.heap.size + 1]? = some (.loop { rec_ .ready none with state := .busy }) := World.putObj_heap_same hlt
      have hd2 : (W.putObj (w.heap.size + 1) (.loop { rec_ .ready none with state := .busy })).heap[w.heap.size]? = some (.deferred (some [])) := (World.putObj_heap_other (by omega)).trans hd
      refine wpIn_mono (hbody (w.heap.size + 1) x δ _ (hYo' _ _ _ _ hy' ⟨_, hl⟩ (Upd.putObj _ _ _)) a' (ha'.sub hs)) ?_
      rintro e a3 W3 hp3
      cases e with
      | normal =>
        obtain ⟨hk3, hz⟩ := hp3
        have hl3 := hk3.same _ _ (by omega) hl2 rfl
        have hd3 := hk3.same _ _ (Nat.le_refl _) hd2 rfl
        exact ⟨_, _, run_endRound none hl3, .inl ⟨rfl, hZo _ _ _ hz ⟨_, hl3⟩ (Upd.putObj _ _ _), World.putObj_heap_same (lt_of_block hl3), (World.putObj_heap_other (by omega)).trans hd3⟩⟩
      | ret =>
        obtain ⟨hk3, hz⟩ := hp3
        have hl3 := hk3.same _ _ (by omega) hl2 rfl
        have hd3 := hk3.same _ _ (Nat.le_refl _) hd2 rfl
        exact ⟨_, _, run_endRound (some .ret) hl3, .inr ⟨rfl, hZfo _ _ _ hz ⟨_, hl3⟩ (Upd.putObj _ _ _), World.putObj_heap_same (lt_of_block hl3), (World.putObj_heap_other (by omega)).trans hd3⟩⟩
      | exit id => exact hp3.elim
      | goto t => exact hp3.elim
      | panic ch => exact hp3.elim
      | outgrown => exact hp3.elim
    have hc := hiter (w.heap.size + 1) w.heap.size _ _ _ rfl rfl hsz hE1 hH ⟨hL1, hD1⟩
    have e0 : (#[Value.func (.yield (w.heap.size + 1)) #[] #[]] ++ lb.toArray : Array Value) = (Value.func (.yield (w.heap.size + 1)) #[] #[] :: lb).toArray := by simp
    rw [e0]
    refine callsIn_wide.2 (Calls.mono hc ?_)
    rintro e W2 ⟨v, rfl, ⟨hE, hl, hd⟩ | ⟨hE, hl, hd⟩⟩
    · refine ⟨none, _, run_endLoop hl (by simp [rec_]), ?_⟩
      refine hdone w.heap.size _ (Nat.le_refl _) (hEo () _ _ hE ⟨_, hl⟩ (Upd.putObj _ _ _)) ((World.putObj_heap_other (by omega)).trans hd) _ ⟨ha.size, ?_, ha.get⟩
      simp [ha.defers, mark]
    · refine ⟨some .ret, _, run_endLoop hl (by simp [rec_]), wpIn_ret ?_⟩
      refine hleft w.heap.size _ (Nat.le_refl _) (hEfo () _ _ hE ⟨_, hl⟩ (Upd.putObj _ _ _)) ((World.putObj_heap_other (by omega)).trans hd) _ ⟨ha.size, ?_, ha.get⟩
      simp [ha.defers, mark]
end
end Go.Proofs.YtclinbbghnebaaaGreat
namespace Go.Proofs.YtclinbbghnebaaaGreat
open Go Go.RowKit Go.Proofs.Tryz
set_option maxRecDepth 10000

theorem sh_in {r : Rul} {x : Shf} {l : List Sp} {j : Nat} (hj : j < l.length) (h : (nth l j).b < x.e + r.rest) : shGo r x (l.drop j) = shGo r ⟨x.b, max x.e (nth l j).e, x.w + ((nth l j).e - (nth l j).b)⟩ (l.drop (j + 1)) := by
  rw [drop_nth hj, shGo, if_pos h]
theorem sh_exit {r : Rul} {x : Shf} {l : List Sp} {j : Nat} (h : ¬ (j < l.length ∧ (nth l j).b < x.e + r.rest)) : shGo r x (l.drop j) = x :: shiftsP r (l.drop j) := by
  rcases Nat.lt_or_ge j l.length with hj | hj
  · rw [drop_nth hj, shGo, if_neg (fun q => h ⟨hj, q⟩)]; rfl
  · rw [List.drop_of_length_le hj]; rfl
theorem sh_new {r : Rul} {l : List Sp} {i : Nat} (hi : i < l.length) (hr : 1 ≤ r.rest) (ho : OkSp (nth l i)) : shGo r ⟨(nth l i).b, (nth l i).e, 0⟩ (l.drop i) = shiftsP r (l.drop i) := by
  rw [drop_nth hi]
  rcases sh_first (s := nth l i) (l := l.drop (i + 1)) hr with h | h
  · exact h
  · exact absurd ho.2.1 h
theorem shGo_len {r : Rul} : ∀ {l : List Sp} {x : Shf}, (shGo r x l).length ≤ l.length + 1
  | [], _ => by simp [shGo]
  | s :: l, x => by
    unfold shGo
    split
    · have := shGo_len (r := r) (l := l) (x := ⟨x.b, max x.e s.e, x.w + (s.e - s.b)⟩); simp only [List.length_cons]; omega
    · have := shGo_len (r := r) (l := l) (x := ⟨s.b, s.e, s.e - s.b⟩); simp only [List.length_cons]; omega
theorem shifts_len {r : Rul} : ∀ {l : List Sp}, (shiftsP r l).length ≤ l.length
  | [] => Nat.le_refl _
  | _s :: _l => shGo_len
/-- A shift that is handed out, and those before it. -/
structure ShX where
  pre : List Shf
  v : Shf
  w : World
def encShX (x : ShX) : Value := .agg (encShf x.v).toArray
def RgSh (v : Shf) : Prop := (0 ≤ v.b ∧ v.b ≤ 20160) ∧ (0 ≤ v.e ∧ v.e ≤ 20160) ∧ 0 ≤ v.w
def YSh (D : Nat) (C : List Shf → World → Prop) (x : ShX) (W : World) : Prop := C x.pre W ∧ ((RgSh x.v ∧ x.pre.length < 100000) ∧ D + 1 < W.heap.size) ∧ Upd (· = D + 1) x.w W
def ZSh (T : Nat → Prop) (C : List Shf → World → Prop) (x : ShX) (W : World) : Prop := C (x.pre ++ [x.v]) W ∧ Upd T x.w W
def FSh (T : Nat → Prop) (Cf : List Shf × Shf → World → Prop) (x : ShX) (W : World) : Prop := Cf (x.pre, x.v) W ∧ Upd T x.w W
def EndF (sh : List Shf) (Cf : List Shf × Shf → World → Prop) (W : World) : Prop := ∃ pre v post, sh = pre ++ v :: post ∧ Cf (pre, v) W
theorem YSh.turned {D : Nat} {C : List Shf → World → Prop} (hC : Turned (D + 1) C) : Turned (D + 1) (YSh D C) := fun _x _W _W' h hl u => ⟨hC _ _ _ h.1 hl u, ⟨h.2.1.1, Nat.lt_of_lt_of_le h.2.1.2 u.size⟩, h.2.2.trans u⟩
theorem ZSh.turned {D : Nat} {T : Nat → Prop} {C : List Shf → World → Prop} (hC : Turned (D + 1) C) (hT : T (D + 1)) : Turned (D + 1) (ZSh T C) := fun x W W' h hl u => ⟨hC _ _ _ h.1 hl u, h.2.trans (u.mono fun i e => by subst e; exact hT)⟩
theorem FSh.turned {D : Nat} {T : Nat → Prop} {Cf : List Shf × Shf → World → Prop} (hC : Turned (D + 1) Cf) (hT : T (D + 1)) : Turned (D + 1) (FSh T Cf) := fun x W W' h hl u => ⟨hC _ _ _ h.1 hl u, h.2.trans (u.mono fun i e => by subst e; exact hT)⟩
theorem EndF.turned {D : Nat} {sh : List Shf} {Cf : List Shf × Shf → World → Prop} (hC : Turned (D + 1) Cf) : Turned (D + 1) (fun (_ : Unit) W => EndF sh Cf W) := fun _ W W' h hl u => by
  obtain ⟨pre, v, post, e, h⟩ := h
  exact ⟨pre, v, post, e, hC _ _ _ h hl u⟩
theorem rul_rng {r : Rul} (h : okRul r = true) : (1 ≤ r.rest ∧ r.rest ≤ 20160) ∧ (1 ≤ r.span ∧ r.span ≤ 20160) ∧ (1 ≤ r.work ∧ r.work ≤ 20160) ∧ (1 ≤ r.week ∧ r.week ≤ 20160) ∧ (1 ≤ r.ww ∧ r.ww ≤ 20160) := by simpa only [okRul, decide_eq_true_eq] using h
def okShf (n : Nat) (x : Shf) : Prop := (0 ≤ x.b ∧ x.b ≤ 20160) ∧ (0 ≤ x.e ∧ x.e ≤ 20160) ∧ 0 ≤ x.w ∧ x.w ≤ 20160 * n
theorem inW_rng {s : Sp} {a b : Int} (h : OkSp s) : 0 ≤ inW s a b ∧ inW s a b ≤ 20160 := by unfold OkSp at h; unfold inW; omega
theorem sumI2_rng {B : Int} : ∀ {l : List Int}, (∀ x ∈ l, 0 ≤ x ∧ x ≤ B) → 0 ≤ sumI2 l ∧ sumI2 l ≤ B * l.length
  | [], _ => by simp [sumI2]
  | a :: l, h => by
    have h1 := sumI2_rng (l := l) (fun x hx => h x (List.mem_cons_of_mem _ hx))
    have h2 := h a (by simp)
    have e : B * ((a :: l).length : Int) = B * (l.length : Int) + B := by rw [List.length_cons, Int.natCast_succ, Int.mul_add, Int.mul_one]
    rw [e]
    show 0 ≤ a + sumI2 l ∧ a + sumI2 l ≤ _
    omega
theorem ovl_take {l : List Sp} : ∀ {e : Int}, ovlP e l = true ↔ ∃ k, k < l.length ∧ (nth l k).b < (l.take k).foldl (fun e s => max e s.e) e := by
  induction l with
  | nil => intro e; simp [ovlP]
  | cons s l ih =>
    intro e
    rw [ovlP, Bool.or_eq_true, decide_eq_true_eq, ih]
    constructor
    · rintro (h | ⟨k, hk, h⟩)
      · exact ⟨0, by simp, h⟩
      · exact ⟨k + 1, by simpa using hk, h⟩
    · rintro ⟨k, hk, h⟩
      cases k with
      | zero => exact .inl h
      | succ k => exact .inr ⟨k, by simpa using hk, h⟩
/-- The greatest end of the first times. -/
def mxE (l : List Sp) (k : Nat) : Int := (l.take k).foldl (fun e s => max e s.e) 0
theorem mxE_succ {l : List Sp} {k : Nat} (hk : k < l.length) : mxE l (k + 1) = max (mxE l k) (nth l k).e := by unfold mxE; rw [take_nth hk, List.foldl_append]; rfl
theorem ovl_not {l : List Sp} (h : ∀ k, k < l.length → ¬ (nth l k).b < mxE l k) : ovlP 0 l = false := by
  cases hq : ovlP 0 l with
  | false => rfl
  | true => obtain ⟨k, hk, h2⟩ := ovl_take.1 hq; exact absurd h2 (h k hk)
theorem ovl_yes {l : List Sp} {k : Nat} (hk : k < l.length) (h : (nth l k).b < mxE l k) : ovlP 0 l = true := ovl_take.2 ⟨k, hk, h⟩
/-- What broken's variables hold when these shifts have been looked at. -/
def BrkC (r : Rul) (b4 b8 : Nat) (wR : World) (pre : List Shf) (W : World) : Prop :=
  Upd (fun i => i = b4 ∨ i = b8 ∨ i = (wR.heap.size + 1)) wR W ∧ Blk W b4 3 [.int .i64 0] ∧ Blk W b8 3 [.int .i64 (if (pre.any fun x => decide (r.work < x.w)) = true then 3 else 0)] ∧ (pre.any fun x => decide (r.span < x.e - x.b)) = false
def BrkF (r : Rul) (b4 b8 : Nat) (wR : World) (p : List Shf × Shf) (W : World) : Prop :=
  Upd (fun i => i = b4 ∨ i = b8 ∨ i = (wR.heap.size + 1)) wR W ∧ Blk W b4 3 [.int .i64 2] ∧ r.span < p.2.e - p.2.b ∧ ∃ v, Blk W b8 3 [v]
theorem BrkC.ext {r : Rul} {b4 b8 : Nat} {wR : World} (pre : List Shf) (W W' : World) (h : BrkC r b4 b8 wR pre W) (u : Ext W W') : BrkC r b4 b8 wR pre W' := ⟨h.1.nx u, h.2.1.kx u, h.2.2.1.kx u, h.2.2.2⟩
theorem BrkF.ext {r : Rul} {b4 b8 : Nat} {wR : World} (p : List Shf × Shf) (W W' : World) (h : BrkF r b4 b8 wR p W) (u : Ext W W') : BrkF r b4 b8 wR p W' := by
  obtain ⟨h1, h2, h3, v, h4⟩ := h
  exact ⟨h1.nx u, h2.kx u, h3, v, h4.kx u⟩
theorem BrkC.turned {r : Rul} {b4 b8 : Nat} {wR : World} : Turned (wR.heap.size + 1) (BrkC r b4 b8 wR) := fun _pre _W _W' h hl u =>
  ⟨h.1.trans (u.mono fun _i e => .inr (.inr e)), h.2.1.keep u (h.2.1.notLoop hl), h.2.2.1.keep u (h.2.2.1.notLoop hl), h.2.2.2⟩
theorem BrkF.turned {r : Rul} {b4 b8 : Nat} {wR : World} : Turned (wR.heap.size + 1) (BrkF r b4 b8 wR) := fun p W W' h hl u => by
  obtain ⟨h1, h2, h3, v, h4⟩ := h
  exact ⟨h1.trans (u.mono fun i e => .inr (.inr e)), h2.keep u (h2.notLoop hl), h3, v, h4.keep u (h4.notLoop hl)⟩
theorem own143 : Own Tryz.prog 143 := ⟨Tryz.f143, func143, by kernel_rfl, by kernel_rfl⟩
theorem shifts_c (r : Rul) (l : List Sp) (al : Option Addr) (_bl _ol cl : Nat) (w0 : World) :
    CallsV Tryz.prog 75 [.agg #[.int .i64 r.rest, .int .i64 r.span, .int .i64 r.work, .int .i64 r.week, .int .i64 r.ww], .slice al l.length cl] w0 (fun v w' => (∃ b1 b2, v = .func (.func 143) #[] #[.pointer (some ⟨b1, 0, none⟩), .pointer (some ⟨b2, 0, none⟩)] ∧ Blk w' b1 175 [.slice al l.length cl] ∧ Blk w' b2 172 [.int .i64 r.rest, .int .i64 r.span, .int .i64 r.work, .int .i64 r.week, .int .i64 r.ww] ∧ w0.heap.size ≤ b1 ∧ w0.heap.size ≤ b2) ∧ Ext w0 w') := by
 refine f_n func75 ?_
 refine go ?_
 refine x_b fun bk2 w3 ebk2 sbk2 B4 u5 => ?_
 refine x_b fun bk7 w8 ebk7 sbk7 B9 u10 => ?_
 refine go ?_
 refine t_mkfunc (vs := []) (us := [.pointer (some ⟨bk7, 0, none⟩), .pointer (some ⟨bk2, 0, none⟩)]) rfl rfl rfl rfl ?_
 refine go ?_
 refine f_1 results75 ?_
 have B13 := (B4.kx u10)
 exact ⟨⟨bk7, bk2, rfl, B9, B13, by omega, by omega⟩, u_d⟩
set_option maxHeartbeats 4000000 in
theorem shifts1_c (r : Rul) (l : List Sp) (al : Option Addr) (bl ol cl ly D b1 b2 : Nat) (T : Nat → Prop) (C : List Shf → World → Prop) (Cf : List Shf × Shf → World → Prop) (R Rf : World → Prop) (w0 : World) (hC : ∀ pre W W', C pre W → Ext W W' → C pre W') (_hCf : ∀ p W W', Cf p W → Ext W W' → Cf p W') (hH : HandsL Tryz.prog ly D encShX (YSh D C) (ZSh T C) (FSh T Cf) R Rf) (h1 : Blk w0 b1 175 [.slice al l.length cl]) (h2 : Blk w0 b2 172 [.int .i64 r.rest, .int .i64 r.span, .int .i64 r.work, .int .i64 r.week, .int .i64 r.ww]) (hl : Sl encSp 2 w0 al bl ol l) (hll : l.length ≤ 100000) (hok : ∀ x ∈ l, OkSp x) (hr : okRul r = true) (_hly : ly = D + 1) (hD : D + 1 < w0.heap.size) (hT1 : ¬ T b1) (hT2 : ¬ T b2) (hTl : 0 < l.length → ¬ T bl) (hR0 : R w0) (hC0 : C [] w0) :
    CallsV Tryz.prog 143 [.func (.yield ly) #[] #[], .pointer (some ⟨b1, 0, none⟩), .pointer (some ⟨b2, 0, none⟩)] w0 (fun _ w' => ((C (shiftsP r l) w' ∧ R w') ∨ (EndF (shiftsP r l) Cf w' ∧ Rf w')) ∧ Upd T w0 w') := by
 have hR : ∀ (_ _ : Unit) W W', R W → Ext W W' → R W' := fun _ _ W W' h u => hH.keep h u (fun h => h) (fun h => h)
 have hCc : ∀ (_ : Unit) pre W W', C pre W → Ext W W' → C pre W' := fun _ => hC
 have hrr := rul_rng hr
 have hb1l := h1.lt
 have hb2l := h2.lt
 refine f_n func143 ?_
 refine go ?_
 refine x_l2 (fun i => T i) [0, 1, 2] (fun (p : Nat) (pre : List Shf) => [(4, .int .i64 (p : Int))]) (fun p pre w => (p ≤ l.length) ∧ (shiftsP r l = pre ++ shiftsP r (l.drop p)) ∧ (C pre w) ∧ (R w)) (fun p pre => l.length - p) 0 ([]) ⟨(Nat.zero_le _), rfl, hC0, hR0⟩ ?_
 rintro p pre w3 ⟨hi, hsp, hCk, hRk⟩ u4 zu4 K2 hK2
 have E5 := Sc.mk ((Upd.refl (fun i => T i) w0).next u4 (fun i hi (h : T i) => show T i by first | omega | assumption))
 refine go ?_
 refine q_p (fun g9 => ?_) fun g9 => ?_
 ·
  refine go ?_
  refine c_drawnM follows (fun _ => False) (OTl [0, 2, 4, 6, 8, 10, 12, 14, 16, 18, 20, 23, 25]) (by kernel_rfl) fun w9 u10 => ?_
  have zu10 := u10.size
  refine go ?_
  have D12 := ((hl.keep u4 (fun hp => by have hq_ := hTl hp; have hq2_ := hl.lt hp; show ¬ (T bl); first | exact hq_ | omega)).keep u10 (fun _ h => h))
  refine y_i p D12 (fun _ => ?_)
  refine go ?_
  refine y_i p D12 (fun _ => ?_)
  refine go ?_
  refine x_n fun bk15 w16 ebk15 sbk15 B17 u18 => ?_
  refine go ?_
  refine x_s fun w20 sw20 B22 u21 => ?_
  refine go ?_
  have hbll := hl.lt (show 0 < l.length by omega)
  have hoi := hok _ (nth_mem (xs := l) (i := p) (by omega))
  have hnew := sh_new (r := r) (l := l) (i := p) (by omega) hrr.1.1 hoi
  unfold OkSp at hoi
  refine x_l2 (fun i => i = bk15) [0, 1, 2, 5] (fun (j : Nat) (x : Shf) => [(4, .int .i64 (j : Int))]) (fun j x w => Blk w bk15 101 [.int .i64 x.b, .int .i64 x.e, .int .i64 x.w] ∧ (j ≤ l.length) ∧ (shGo r x (l.drop j) = shiftsP r (l.drop p)) ∧ (okShf j x) ∧ ((j = p ∧ x.e = (nth l p).e) ∨ p < j)) (fun j x => l.length - j) p (⟨(nth l p).b, (nth l p).e, 0⟩) ⟨B22, (by show p ≤ _; omega), hnew, (by show okShf p ⟨_, _, _⟩; unfold okShf; simp only []; omega), (.inl ⟨rfl, rfl⟩)⟩ ?_
  rintro j x w26 ⟨I28, hj, hsg, hox, hij⟩ u27 zu27 K25 hK25
  unfold okShf at hox
  refine st1 ?_
  refine x_k1 (fun _ => False) [0, 1, 2, 4, 5] (fun (q : Bool) => [(38, .bool q)]) (fun q w => (q = true ↔ (j < l.length ∧ (nth l j).b < x.e + r.rest))) (fun K35 hK35 => ?_) ?_
  ·
   refine c_drawnM follows (fun _ => False) (OTl [0, 2, 4, 6, 8, 10, 12, 14, 16, 18, 20, 22, 24, 26, 28, 30, 32, 34]) (by kernel_rfl) fun w38 u39 => ?_
   have zu39 := u39.size
   refine go ?_
   refine y_splitp 25 rfl (fun g25 => ?_) (fun g25 => ?_)
   ·
    refine go ?_
    have D41 := ((((D12.keep u18 (fun _ h => h)).keep u21 (fun hp => by have hq_ := hTl hp; have hq2_ := hl.lt hp; show ¬ (bl = bk15); first | exact hq_ | omega)).keep u27 (fun hp => by have hq_ := hTl hp; have hq2_ := hl.lt hp; show ¬ (bl = bk15); first | exact hq_ | omega)).keep u39 (fun _ h => h))
    refine y_i j D41 (fun _ => ?_)
    refine go ?_
    exact hK35 (decide ((nth l j).b < (x.e + r.rest))) (decide_eq_true_iff.trans ⟨fun h => ⟨by omega, by omega⟩, fun h => by omega⟩)
   refine go ?_
   exact hK35 false (⟨fun h => (by cases h), fun h => absurd h.1 (by omega)⟩)
  rintro q w36 hq u37 zu37
  refine q_b (fun g38 => ?_) fun g38 => ?_
  ·
   have hq8 := hq.1 g38
   have hoj := hok _ (nth_mem (xs := l) (i := j) (by omega))
   unfold OkSp at hoj
   refine go ?_
   refine c_drawnM follows (fun i => i = bk15) (.look 0 (.look 2 (.look 3 (.look 4 (.look 5 (.look 6 (.look 8 (.look 10 (.look 11 (.look 12 (.look 13 (.act 1 (.look 7 (.act 9 (.look 16 (.act 14 (.look 15 (.act 17 (.look 18 (.act 19 .done .stop)) .stop)) .stop)) (.act 14 (.act 9 (.look 15 (.look 16 (.act 17 (.look 18 (.act 19 .done .stop)) .stop))) .stop) .stop))) (.act 9 (.act 1 (.look 7 (.look 16 (.act 14 (.look 15 (.act 17 (.look 18 (.act 19 .done .stop)) .stop)) .stop))) (.act 14 (.look 15 (.act 1 (.look 7 (.look 16 (.act 17 (.look 18 (.act 19 .done .stop)) .stop))) .stop)) .stop)) (.act 14 (.act 1 (.look 7 (.act 9 (.look 15 (.look 16 (.act 17 (.look 18 (.act 19 .done .stop)) .stop))) .stop)) (.act 9 (.look 15 (.act 1 (.look 7 (.look 16 (.act 17 (.look 18 (.act 19 .done .stop)) .stop))) .stop)) .stop)) .stop)))))))))))))) (by kernel_rfl) fun w45 u46 => ?_
   have zu46 := u46.size
   refine go ?_
   have D48 := (((((D12.keep u18 (fun _ h => h)).keep u21 (fun hp => by have hq_ := hTl hp; have hq2_ := hl.lt hp; show ¬ (bl = bk15); first | exact hq_ | omega)).keep u27 (fun hp => by have hq_ := hTl hp; have hq2_ := hl.lt hp; show ¬ (bl = bk15); first | exact hq_ | omega)).keep u37 (fun _ h => h)).keep u46 (fun _ h => h))
   refine y_i j D48 (fun _ => ?_)
   refine go ?_
   refine y_i j D48 (fun _ => ?_)
   refine go ?_
   refine s_or ?_ ?_
   ·
    refine go ?_
    refine y_max rfl rfl rfl rfl (s_or ?_ ?_)
    ·
     refine go ?_
     refine x_c func144 rfl rfl (work_c (nth l j) _ (hok _ (nth_mem (by omega)))) ?_
     rintro _ w52 ⟨rfl, u53⟩ zu53
     refine go ?_
     refine x_s fun w56 sw56 B58 u57 => ?_
     refine go ?_
     refine x_s fun w60 sw60 B62 u61 => ?_
     refine go ?_
     exact hK25 (j + 1) (⟨x.b, max x.e (nth l j).e, x.w + ((nth l j).e - (nth l j).b)⟩) ⟨B62, (by show j + 1 ≤ _; omega), (by show shGo r ⟨_, _, _⟩ (l.drop (j + 1)) = _; rw [← sh_in (by omega) (by omega)]; exact hsg), (by show okShf (j + 1) ⟨_, _, _⟩; unfold okShf; simp only []; omega), (.inr (by show p < j + 1; omega))⟩ (hm := (by show l.length - (j + 1) < l.length - j; omega))
    refine go ?_
    refine x_c func144 rfl rfl (work_c (nth l j) _ (hok _ (nth_mem (by omega)))) ?_
    rintro _ w65 ⟨rfl, u66⟩ zu66
    refine go ?_
    refine x_s fun w69 sw69 B71 u70 => ?_
    refine go ?_
    refine x_s fun w73 sw73 B75 u74 => ?_
    refine go ?_
    exact hK25 (j + 1) (⟨x.b, max x.e (nth l j).e, x.w + ((nth l j).e - (nth l j).b)⟩) ⟨B75, (by show j + 1 ≤ _; omega), (by show shGo r ⟨_, _, _⟩ (l.drop (j + 1)) = _; rw [← sh_in (by omega) (by omega)]; exact hsg), (by show okShf (j + 1) ⟨_, _, _⟩; unfold okShf; simp only []; omega), (.inr (by show p < j + 1; omega))⟩ (hm := (by show l.length - (j + 1) < l.length - j; omega))
   refine s_or ?_ ?_
   ·
    refine go ?_
    refine s_or ?_ ?_
    ·
     refine go ?_
     refine y_max rfl rfl rfl rfl ?_
     refine go ?_
     refine x_c func144 rfl rfl (work_c (nth l j) _ (hok _ (nth_mem (by omega)))) ?_
     rintro _ w78 ⟨rfl, u79⟩ zu79
     refine go ?_
     refine x_s fun w82 sw82 B84 u83 => ?_
     refine go ?_
     refine x_s fun w86 sw86 B88 u87 => ?_
     refine go ?_
     exact hK25 (j + 1) (⟨x.b, max x.e (nth l j).e, x.w + ((nth l j).e - (nth l j).b)⟩) ⟨B88, (by show j + 1 ≤ _; omega), (by show shGo r ⟨_, _, _⟩ (l.drop (j + 1)) = _; rw [← sh_in (by omega) (by omega)]; exact hsg), (by show okShf (j + 1) ⟨_, _, _⟩; unfold okShf; simp only []; omega), (.inr (by show p < j + 1; omega))⟩ (hm := (by show l.length - (j + 1) < l.length - j; omega))
    refine go ?_
    refine x_c func144 rfl rfl (work_c (nth l j) _ (hok _ (nth_mem (by omega)))) ?_
    rintro _ w91 ⟨rfl, u92⟩ zu92
    refine go ?_
    refine y_max rfl rfl rfl rfl ?_
    refine go ?_
    refine x_s fun w95 sw95 B97 u96 => ?_
    refine go ?_
    refine x_s fun w99 sw99 B101 u100 => ?_
    refine go ?_
    exact hK25 (j + 1) (⟨x.b, max x.e (nth l j).e, x.w + ((nth l j).e - (nth l j).b)⟩) ⟨B101, (by show j + 1 ≤ _; omega), (by show shGo r ⟨_, _, _⟩ (l.drop (j + 1)) = _; rw [← sh_in (by omega) (by omega)]; exact hsg), (by show okShf (j + 1) ⟨_, _, _⟩; unfold okShf; simp only []; omega), (.inr (by show p < j + 1; omega))⟩ (hm := (by show l.length - (j + 1) < l.length - j; omega))
   refine go ?_
   refine x_c func144 rfl rfl (work_c (nth l j) _ (hok _ (nth_mem (by omega)))) ?_
   rintro _ w104 ⟨rfl, u105⟩ zu105
   refine go ?_
   refine s_or ?_ ?_
   ·
    refine go ?_
    refine y_max rfl rfl rfl rfl ?_
    refine go ?_
    refine x_s fun w108 sw108 B110 u109 => ?_
    refine go ?_
    refine x_s fun w112 sw112 B114 u113 => ?_
    refine go ?_
    exact hK25 (j + 1) (⟨x.b, max x.e (nth l j).e, x.w + ((nth l j).e - (nth l j).b)⟩) ⟨B114, (by show j + 1 ≤ _; omega), (by show shGo r ⟨_, _, _⟩ (l.drop (j + 1)) = _; rw [← sh_in (by omega) (by omega)]; exact hsg), (by show okShf (j + 1) ⟨_, _, _⟩; unfold okShf; simp only []; omega), (.inr (by show p < j + 1; omega))⟩ (hm := (by show l.length - (j + 1) < l.length - j; omega))
   refine go ?_
   refine y_max rfl rfl rfl rfl ?_
   refine go ?_
   refine x_s fun w116 sw116 B118 u117 => ?_
   refine go ?_
   refine x_s fun w120 sw120 B122 u121 => ?_
   refine go ?_
   exact hK25 (j + 1) (⟨x.b, max x.e (nth l j).e, x.w + ((nth l j).e - (nth l j).b)⟩) ⟨B122, (by show j + 1 ≤ _; omega), (by show shGo r ⟨_, _, _⟩ (l.drop (j + 1)) = _; rw [← sh_in (by omega) (by omega)]; exact hsg), (by show okShf (j + 1) ⟨_, _, _⟩; unfold okShf; simp only []; omega), (.inr (by show p < j + 1; omega))⟩ (hm := (by show l.length - (j + 1) < l.length - j; omega))
  have hq9 : ¬ (j < l.length ∧ (nth l j).b < x.e + r.rest) := fun h => by rw [hq.2 h] at g38; cases g38
  have hlt : p < j := by
    rcases hij with h | h
    · exact absurd ⟨by omega, by rw [h.1]; omega⟩ hq9
    · exact h
  have hpl : pre.length < 100000 := by
    have h9 := shifts_len (r := r) (l := l)
    rw [hsp, ← hsg, sh_exit hq9, List.length_append, List.length_cons] at h9; omega
  refine go ?_
  refine t_yield (vs := [.agg #[.int .i64 x.b, .int .i64 x.e, .int .i64 x.w]]) rfl rfl rfl rfl (hH.hand ⟨pre, x, w36⟩ _ ⟨(hC _ _ _ hCk ((((((Upd.refl (fun _ => False) _).nx u10).nx u18).next u21 (fun i hi (h : i = bk15) => show False by first | omega | assumption)).next u27 (fun i hi (h : i = bk15) => show False by first | omega | assumption)).nx u37)), ⟨⟨by show (0 ≤ x.b ∧ x.b ≤ 20160) ∧ (0 ≤ x.e ∧ x.e ≤ 20160) ∧ 0 ≤ x.w; omega, hpl⟩, by omega⟩, Upd.refl _ _⟩ (hR () () _ _ hRk ((((((Upd.refl (fun _ => False) _).nx u10).nx u18).next u21 (fun i hi (h : i = bk15) => show False by first | omega | assumption)).next u27 (fun i hi (h : i = bk15) => show False by first | omega | assumption)).nx u37))) (by rintro e w' (⟨rfl, _⟩ | ⟨rfl, _⟩) <;> exact ⟨_, rfl⟩) (fun v125 w126 r127 => ?_)
  rcases r127 with ⟨hvr127, hrr127⟩ | ⟨hvr127, hrr127⟩ <;> injection hvr127 with hvr127 <;> subst hvr127
  ·
   obtain ⟨⟨hzC, u128⟩, hzR⟩ := hrr127
   have zu128 := u128.size
   refine go ?_
   exact hK2 j (pre ++ [x]) ⟨(by omega), (by show _ = (pre ++ [x]) ++ _; rw [hsp, ← hsg, sh_exit hq9, List.append_assoc]; rfl), hzC, hzR⟩ (hm := (by show l.length - j < l.length - p; omega)) (hu := ((((((u4.nx u10).nx u18).next u21 (fun i hi (h : i = bk15) => show T i by first | omega | assumption)).next u27 (fun i hi (h : i = bk15) => show T i by first | omega | assumption)).nx u37).next u128 (fun i hi (h : T i) => show T i by first | omega | assumption)))
  obtain ⟨⟨hzF, u128⟩, hzR⟩ := hrr127
  have zu128 := u128.size
  refine go ?_
  refine f_ret0 results143 ?_
  exact ⟨.inr ⟨⟨pre, x, shiftsP r (l.drop j), by rw [hsp, ← hsg, sh_exit hq9], hzF⟩, hzR⟩, ((((((E5.u.nx u10).nx u18).next u21 (fun i hi (h : i = bk15) => show T i by first | omega | assumption)).next u27 (fun i hi (h : i = bk15) => show T i by first | omega | assumption)).nx u37).next u128 (fun i hi (h : T i) => show T i by first | omega | assumption))⟩
 refine go ?_
 refine f_ret0 results143 ?_
 exact ⟨.inl ⟨by rw [show shiftsP r l = pre by rw [hsp, List.drop_of_length_le (by omega), shiftsP, List.append_nil]]; exact hCk, hRk⟩, E5.u⟩
set_option maxHeartbeats 4000000 in
theorem broken_c (r : Rul) (l : List Sp) (al : Option Addr) (bl ol cl : Nat) (w0 : World) (hl : Sl encSp 2 w0 al bl ol l) (hll : l.length ≤ 100000) (hok : ∀ x ∈ l, OkSp x) (hr : okRul r = true) :
    CallsV Tryz.prog 66 [.agg #[.int .i64 r.rest, .int .i64 r.span, .int .i64 r.work, .int .i64 r.week, .int .i64 r.ww], .slice al l.length cl] w0 (fun v w' => v = .int .i64 (brokP r l) ∧ Ext w0 w') := by
 have hrr := rul_rng hr
 refine f_enterM (N := 83) func66 rfl rfl rfl (q_of ?_)
 refine go ?_
 refine x_b fun bk2 w3 ebk2 sbk2 B4 u5 => ?_
 refine x_n fun bk7 w8 ebk7 sbk7 B9 u10 => ?_
 refine go ?_
 refine x_l1 (fun _ => False) [1, 2, 4, 15, 16] (fun (k : Nat) => [(5, .int .i64 (mxE l k)), (17, .int .i64 (k : Int))]) (fun k w => (k ≤ l.length) ∧ (∀ j, j < k → ¬ (nth l j).b < mxE l j)) (fun k => l.length - k) 0 ⟨(Nat.zero_le _), (fun j hj => absurd hj (Nat.not_lt_zero _))⟩ ?_
 rintro k w16 ⟨hk, hno⟩ u17 zu17 K15 hK15
 have E18 := Sc.mk ((((Upd.refl (fun _ => False) w0).nx u5).nx u10).nx u17)
 refine go ?_
 refine q_p (fun g18 => ?_) fun g18 => ?_
 ·
  have hokk := hok _ (nth_mem (xs := l) (i := k) (by omega))
  unfold OkSp at hokk
  refine go ?_
  refine g_i k (hl.keep E18.u (fun _ h => h)) (fun _ => ?_)
  refine go ?_
  refine x_n fun bk24 w25 ebk24 sbk24 B26 u27 => ?_
  refine x_s fun w29 sw29 B31 u30 => ?_
  refine go ?_
  refine q_p (fun g24 => ?_) fun g24 => ?_
  ·
   refine go ?_
   have B36 := (((B9.kx u17).kx u27).keep u30 (by omega))
   refine x_s fun w37 sw37 B39 u38 => ?_
   refine go ?_
   have D43 := (((((((show Marks w0.heap.size [] w0 from trivial).keep u5 (CellsIn.none _)).keep u10 (CellsIn.none _)).keep u17 (CellsIn.none _)).keep u27 (CellsIn.none _)).keep u30 (B26).cellsIn).keep u38 (B36).cellsIn)
   have hmkE := D43
   refine f_retMc1 (v := .int .i64 1) results66 (.cell D43 rfl isAgg3 B39 rfl) D43 (fun w41 u42 omw41 => ?_)
   have zu42 := u42.size
   have hres : 1 = brokP r l := by
     unfold brokP
     symm; rw [if_pos (ovl_yes (k := k) (by omega) g24)]
   exact ⟨congrArg (Value.int .i64) hres, ((((E18.u.nx u27).next u30 (fun i hi h => by omega)).next u38 (fun i hi h => by omega)).next u42 (fun i hi (h : w0.heap.size ≤ i) => show False by first | omega | assumption))⟩
  refine go ?_
  refine t_max rfl rfl rfl rfl ?_
  refine go ?_
  exact hK15 (k + 1) ⟨(by omega), (fun j hj => by
    rcases Nat.lt_or_ge j k with h | h
    · exact hno j h
    · rw [show j = k by omega]; exact g24)⟩ (hs := by exact ⟨(congrArg (fun z => some (Value.int .i64 z)) (mxE_succ (by omega)).symm), rfl, rfl, rfl, rfl, rfl, rfl, trivial⟩)
 have hov : ovlP 0 l = false := ovl_not (fun j hj => hno j (by omega))
 refine go ?_
 refine x_n fun bk46 w47 ebk46 sbk46 B48 u49 => ?_
 refine x_s fun w51 sw51 B53 u52 => ?_
 refine go ?_
 refine x_c func75 rfl rfl (shifts_c r l al bl ol cl _) ?_
 rintro _ w58 ⟨⟨bS1, bS2, rfl, hBS1, hBS2, gS1, gS2⟩, u59⟩ zu59
 have E61 := Sc.mk (((E18.u.nx u49).next u52 (fun i hi h => by omega)).nx u59)
 refine go ?_
 have B62 := ((((B9.kx u17).kx u49).keep u52 (by omega)).kx u59)
 have B63 := (B53.kx u59)
 have lw4 := B62.lt
 have lw8 := B63.lt
 have lwS1 := hBS1.lt
 have lwS2 := hBS2.lt
 have hlS := (hl.keep E61.u (fun _ h => h))
 refine WC.weak [(1, .slice al l.length cl), (2, .pointer (some ⟨bk2, 0, none⟩)), (4, .pointer (some ⟨bk7, 0, none⟩)), (8, .pointer (some ⟨bk46, 0, none⟩)), (32, .func (.func 143) #[] #[.pointer (some ⟨bS1, 0, none⟩), .pointer (some ⟨bS2, 0, none⟩)])] ⟨rfl, rfl, rfl, rfl, rfl, trivial⟩ (c_rangeL (γ := ShX) (δ := Nat) (lb := [.pointer (some ⟨bS1, 0, none⟩), .pointer (some ⟨bS2, 0, none⟩)]) (enc := encShX) own143 rfl rfl (YSh w58.heap.size (BrkC r bk7 bk46 w58)) (ZSh (fun i => i = bk7 ∨ i = bk46 ∨ i = (w58.heap.size + 1)) (BrkC r bk7 bk46 w58)) (FSh (fun i => i = bk7 ∨ i = bk46 ∨ i = (w58.heap.size + 1)) (BrkF r bk7 bk46 w58)) (BrkC r bk7 bk46 w58 (shiftsP r l)) (EndF (shiftsP r l) (BrkF r bk7 bk46 w58)) (ZSh.turned BrkC.turned (by simp)) (FSh.turned BrkF.turned (by simp)) (fun _ W W' h hl u => BrkC.turned _ W W' h hl u) (EndF.turned BrkF.turned) ?_ (fun x d => [(1, .slice al l.length cl), (2, .pointer (some ⟨bk2, 0, none⟩)), (4, .pointer (some ⟨bk7, 0, none⟩)), (8, .pointer (some ⟨bk46, 0, none⟩)), (9, .pointer (some ⟨d, 0, none⟩))]) (fun x d W => Blk W d 101 (encShf x.v) ∧ w58.heap.size + 1 < d ∧ YSh w58.heap.size (BrkC r bk7 bk46 w58) x W) (fun d x W W' h hl u => ⟨h.1.keep u (h.1.notLoop hl), h.2.1, YSh.turned BrkC.turned _ _ _ h.2.2 hl u⟩) ?_ ?_ ?_ ?_)
 ·
  intro l_ D R Rf W hD hl hsz hE1 hH hR
  subst hD hl
  refine (shifts1_c r l al bl ol cl _ _ bS1 bS2 (fun i => i = bk7 ∨ i = bk46 ∨ i = (w58.heap.size + 1)) (BrkC r bk7 bk46 w58) (BrkF r bk7 bk46 w58) R Rf W (fun p W W' h u => BrkC.ext p W W' h u) (fun p W W' h u => BrkF.ext p W W' h u) hH (hBS1.kx hE1) (hBS2.kx hE1) (hlS.keep hE1 (fun _ h => h)) hll hok hr rfl (by omega) (show ¬ (bS1 = bk7 ∨ bS1 = bk46 ∨ bS1 = (w58.heap.size + 1)) by omega) (show ¬ (bS2 = bk7 ∨ bS2 = bk46 ∨ bS2 = (w58.heap.size + 1)) by omega) (fun hp => by have h9 := hl.lt hp; show ¬ (bl = bk7 ∨ bl = bk46 ∨ bl = (w58.heap.size + 1)); omega) hR ⟨Ext.to hE1, B62.kx hE1, B63.kx hE1, rfl⟩).mono fun _ _ h => h.1
 ·
  intro lq x W K64 hI hK64
  change WC _ _ _ _ _ _ [(33, .agg #[.int .i64 x.v.b, .int .i64 x.v.e, .int .i64 x.v.w]), (1, .slice al l.length cl), (2, .pointer (some ⟨bk2, 0, none⟩)), (4, .pointer (some ⟨bk7, 0, none⟩)), (8, .pointer (some ⟨bk46, 0, none⟩)), (32, .func (.func 143) #[] #[.pointer (some ⟨bS1, 0, none⟩), .pointer (some ⟨bS2, 0, none⟩)])] _
  refine (q_of ?_)
  obtain ⟨⟨hu0, hc4, hc8, hcn⟩, ⟨hrg, hDW⟩, hux⟩ := id hI
  refine go ?_
  refine x_n fun bk65 w66 ebk65 sbk65 B67 u68 => ?_
  refine x_s fun w70 sw70 B72 u71 => ?_
  have E73 := Sc.mk (((Upd.refl (fun _ => False) W).nx u68).next u71 (fun i hi h => by omega))
  refine go ?_
  exact hK64 bk65 _ _ ⟨rfl, rfl, rfl, rfl, rfl, trivial⟩ E73.u ⟨B72, by omega, BrkC.ext _ _ _ hI.1 E73.u, ⟨hrg, by have := (E73.u).size; omega⟩, hux.nx E73.u⟩
 ·
  intro lq x d w74 hY
  obtain ⟨hbd, hdg, ⟨hu0, hc4, hc8, hcn⟩, ⟨⟨hrg, _⟩, hDW⟩, hux⟩ := hY
  unfold RgSh at hrg
  have hdl := hbd.lt
  have zhu0 := hu0.size
  change WC _ _ _ _ _ _ [(1, .slice al l.length cl), (2, .pointer (some ⟨bk2, 0, none⟩)), (4, .pointer (some ⟨bk7, 0, none⟩)), (8, .pointer (some ⟨bk46, 0, none⟩)), (9, .pointer (some ⟨d, 0, none⟩))] _
  refine (q_of ?_)
  have hcellsR := ((hc4).cellsIn.or (hc8).cellsIn)
  refine go ?_
  have k78 := ((((((B4.kx u10).kx u17).kx u49).keep u52 (by omega)).kx u59).keep hu0 (by omega))
  refine go ?_
  refine q_p (fun g42 => ?_) fun g42 => ?_
  ·
   refine go ?_
   refine x_s fun w80 sw80 B82 u81 => ?_
   refine go ?_
   have hUr := ((Upd.refl (fun i => i = bk7 ∨ i = bk46) w74).next u81 (fun i hi h => by omega))
   have B84 := (hc8.keep u81 (by omega))
   exact ⟨fun a ha => ⟨KeepsFrom.of_upd hUr hcellsR, ⟨⟨(hu0.next u81 (fun i hi h => by omega)), B82, g42, _, B84⟩, ((hux.mono fun i e => .inr (.inr e)).trans ((Upd.refl (fun i => i = bk7 ∨ i = bk46 ∨ i = (w58.heap.size + 1)) _).next u81 (fun i hi h => by omega)))⟩⟩⟩
  refine go ?_
  refine q_p (fun g48 => ?_) fun g48 => ?_
  ·
   refine go ?_
   refine x_s fun w86 sw86 B88 u87 => ?_
   refine go ?_
   have hUr := ((Upd.refl (fun i => i = bk7 ∨ i = bk46) w74).next u87 (fun i hi h => by omega))
   have B90 := (hc4.keep u87 (by omega))
   exact ⟨fun a ha => ⟨KeepsFrom.of_upd hUr hcellsR, ⟨⟨(hu0.next u87 (fun i hi h => by omega)), B90, (by rw [List.any_append]; simp only [List.any_cons, List.any_nil, Bool.or_false, Bool.or_eq_true, decide_eq_true_eq]; rw [if_pos (.inr g48)]; exact B88), by rw [List.any_append, hcn]; simp only [List.any_cons, List.any_nil, Bool.or_false, Bool.false_or]; exact decide_eq_false g42⟩, ((hux.mono fun i e => .inr (.inr e)).trans ((Upd.refl (fun i => i = bk7 ∨ i = bk46 ∨ i = (w58.heap.size + 1)) _).next u87 (fun i hi h => by omega)))⟩⟩⟩
  refine go ?_
  have hUr := (Upd.refl (fun i => i = bk7 ∨ i = bk46) w74)
  exact ⟨fun a ha => ⟨KeepsFrom.of_upd hUr hcellsR, ⟨⟨hu0, hc4, (by rw [List.any_append]; simp only [List.any_cons, List.any_nil, Bool.or_false, decide_eq_false g48]; exact hc8), by rw [List.any_append, hcn]; simp only [List.any_cons, List.any_nil, Bool.or_false, Bool.false_or]; exact decide_eq_false g42⟩, ((hux.mono fun i e => .inr (.inr e)).trans (Upd.refl (fun i => i = bk7 ∨ i = bk46 ∨ i = (w58.heap.size + 1)) _))⟩⟩⟩
 ·
  have D93 := (((((((show Marks w0.heap.size [] w0 from trivial).keep u5 (CellsIn.none _)).keep u10 (CellsIn.none _)).keep u17 (CellsIn.none _)).keep u49 (CellsIn.none _)).keep u52 (B48).cellsIn).keep u59 (CellsIn.none _))
  have hmk0 := D93
  have hmc0 := (show CellsIn (fun i => i = bk7 ∨ i = bk46 ∨ i = (w58.heap.size + 1)) w58 from fun k hk e => by
    rcases e with rfl | rfl | e
    · exact ⟨_, _, _, B62⟩
    · exact ⟨_, _, _, B63⟩
    · omega)
  intro D92 w91 hD92 hE hdD92
  obtain ⟨preF, vF, postF, hshF, hu1, hc4, hspF, v8, hc8⟩ := hE
  have zhu1 := hu1.size
  have mk95 := (hmk0.keep hu1 hmc0).push (D := D92) (by omega) hdD92 (fun d hd D' e => Nat.lt_of_lt_of_le (hmk0.lt d hd D' e) hD92)
  refine go ?_
  have hmkE := mk95
  refine f_retMc1 (v := .int .i64 2) results66 (.cell mk95 rfl isAgg3 hc4 rfl) mk95 (fun w96 u97 omw96 => ?_)
  have zu97 := u97.size
  have hres : 2 = brokP r l := by
    unfold brokP
    symm; rw [if_neg (by rw [hov]; decide), if_pos (by rw [hshF]; exact List.any_eq_true.2 ⟨vF, by simp, by simpa using hspF⟩)]
  exact ⟨congrArg (Value.int .i64) hres, ((E61.u.next hu1 (fun i hi h => by omega)).next u97 (fun i hi (h : w0.heap.size ≤ i) => show False by first | omega | assumption))⟩
 ·
  have D101 := (((((((show Marks w0.heap.size [] w0 from trivial).keep u5 (CellsIn.none _)).keep u10 (CellsIn.none _)).keep u17 (CellsIn.none _)).keep u49 (CellsIn.none _)).keep u52 (B48).cellsIn).keep u59 (CellsIn.none _))
  have hmk0 := D101
  have hmc0 := (show CellsIn (fun i => i = bk7 ∨ i = bk46 ∨ i = (w58.heap.size + 1)) w58 from fun k hk e => by
    rcases e with rfl | rfl | e
    · exact ⟨_, _, _, B62⟩
    · exact ⟨_, _, _, B63⟩
    · omega)
  intro D100 w99 hD100 hE hdD100
  obtain ⟨hu1, hc4, hc8, hcn⟩ := hE
  have zhu1 := hu1.size
  have E102 := Sc.mk (E61.u.next hu1 (fun i hi h => by omega))
  have mk103 := (hmk0.keep hu1 hmc0).push (D := D100) (by omega) hdD100 (fun d hd D' e => Nat.lt_of_lt_of_le (hmk0.lt d hd D' e) hD100)
  refine go ?_
  refine q_p (fun g50 => ?_) fun g50 => ?_
  ·
   refine go ?_
   refine x_s fun w107 sw107 B109 u108 => ?_
   refine go ?_
   have D113 := (mk103.keep u108 (hc4).cellsIn)
   have hmkE := D113
   refine f_retMc1 (v := .int .i64 (if ((shiftsP r l).any fun x => decide (r.work < x.w)) = true then 3 else 0)) results66 (.cell D113 rfl isAgg3 B109 rfl) D113 (fun w111 u112 omw111 => ?_)
   have zu112 := u112.size
   have hres : (if ((shiftsP r l).any fun x => decide (r.work < x.w)) = true then 3 else 0) = brokP r l := by
     unfold brokP
     symm; rw [if_neg (by rw [hov]; decide), if_neg (by rw [hcn]; decide)]
     by_cases h9 : ((shiftsP r l).any fun x => decide (r.work < x.w)) = true
     · rw [if_pos h9, if_pos h9]
     · rw [if_neg h9] at g50; exact absurd rfl g50
   exact ⟨congrArg (Value.int .i64) hres, ((E102.u.next u108 (fun i hi h => by omega)).next u112 (fun i hi (h : w0.heap.size ≤ i) => show False by first | omega | assumption))⟩
  refine go ?_
  refine x_l1 (fun _ => False) [1, 2, 4, 52, 53] (fun (k : Nat) => [(54, .int .i64 (k : Int))]) (fun k w => (k ≤ l.length) ∧ (∀ j, j < k → ¬ r.ww < winP r l (nth l j).e)) (fun k => l.length - k) 0 ⟨(Nat.zero_le _), (fun j hj => absurd hj (Nat.not_lt_zero _))⟩ ?_
  rintro k w118 ⟨hk, hnw⟩ u119 zu119 K117 hK117
  have E120 := Sc.mk (E102.u.nx u119)
  refine go ?_
  refine q_p (fun g55 => ?_) fun g55 => ?_
  ·
   have hokk := hok _ (nth_mem (xs := l) (i := k) (by omega))
   have hokk2 := hokk
   unfold OkSp at hokk2
   refine go ?_
   refine g_i k (hl.keep E120.u (fun _ h => h)) (fun _ => ?_)
   refine go ?_
   refine x_n fun bk126 w127 ebk126 sbk126 B128 u129 => ?_
   refine x_s fun w131 sw131 B133 u132 => ?_
   refine go ?_
   refine x_l1 (fun _ => False) [1, 2, 4, 11, 52, 53, 54, 58, 59] (fun (m : Nat) => [(12, .int .i64 (sumI2 ((l.take m).map fun s => inW s ((nth l k).e - r.week) (nth l k).e))), (60, .int .i64 (m : Int))]) (fun m w => (m ≤ l.length)) (fun m => l.length - m) 0 (Nat.zero_le _) ?_
   rintro m w139 hm u140 zu140 K138 hK138
   have E141 := Sc.mk (((E120.u.nx u129).next u132 (fun i hi h => by omega)).nx u140)
   have hsw := sumI2_rng (B := 20160) (l := (l.take m).map fun s => inW s ((nth l k).e - r.week) (nth l k).e) (fun x hx => by obtain ⟨s, hs, rfl⟩ := List.mem_map.1 hx; exact inW_rng (hok _ (List.mem_of_mem_take hs)))
   rw [List.length_map, List.length_take] at hsw
   refine go ?_
   refine q_p (fun g61 => ?_) fun g61 => ?_
   ·
    have hiw := inW_rng (s := nth l m) (a := (nth l k).e - r.week) (b := (nth l k).e) (hok _ (nth_mem (by omega)))
    refine go ?_
    refine g_i m (hl.keep E141.u (fun _ h => h)) (fun _ => ?_)
    refine go ?_
    refine x_n fun bk147 w148 ebk147 sbk147 B149 u150 => ?_
    refine x_s fun w152 sw152 B154 u153 => ?_
    refine go ?_
    have k156 := ((((((B4.kx u10).kx u17).kx u49).keep u52 (by omega)).kx u59).keep hu1 (by omega))
    refine go ?_
    refine x_c func132 rfl rfl (in_c (nth l m) (((nth l k).e) - r.week) ((nth l k).e) _ (hok _ (nth_mem (by omega))) (by omega) (by omega)) ?_
    rintro _ w158 ⟨rfl, u159⟩ zu159
    refine go ?_
    exact hK138 (m + 1) (by omega) (hs := by exact ⟨(congrArg (fun z => some (Value.int .i64 z)) (by rw [take_nth (by omega), List.map_append]; exact (sumI2_snoc _ _).symm)), rfl, rfl, rfl, rfl, rfl, rfl, rfl, rfl, rfl, rfl, trivial⟩)
   have hml : m = l.length := by omega
   refine c_same 12 (v := .int .i64 (winP r l (nth l k).e)) rfl (by rw [hml, List.take_length]; rfl) ?_
   refine go ?_
   have k163 := ((((((B4.kx u10).kx u17).kx u49).keep u52 (by omega)).kx u59).keep hu1 (by omega))
   refine go ?_
   refine q_p (fun g81 => ?_) fun g81 => ?_
   ·
    refine go ?_
    have B165 := ((((hc4.kx u119).kx u129).keep u132 (by omega)).kx u140)
    refine x_s fun w166 sw166 B168 u167 => ?_
    refine go ?_
    have D172 := (((((mk103.keep u119 (CellsIn.none _)).keep u129 (CellsIn.none _)).keep u132 (B128).cellsIn).keep u140 (CellsIn.none _)).keep u167 (B165).cellsIn)
    have hmkE := D172
    refine f_retMc1 (v := .int .i64 4) results66 (.cell D172 rfl isAgg3 B168 rfl) D172 (fun w170 u171 omw170 => ?_)
    have zu171 := u171.size
    have hres : 4 = brokP r l := by
      unfold brokP
      symm; rw [if_neg (by rw [hov]; decide), if_neg (by rw [hcn]; decide), if_neg (fun h9 => g50 (by rw [if_pos h9]; decide)), if_pos (List.any_eq_true.2 ⟨nth l k, nth_mem (by omega), by simpa using g81⟩)]
    exact ⟨congrArg (Value.int .i64) hres, ((E141.u.next u167 (fun i hi h => by omega)).next u171 (fun i hi (h : w0.heap.size ≤ i) => show False by first | omega | assumption))⟩
   refine go ?_
   exact hK117 (k + 1) ⟨(by omega), (fun j hj => by
     rcases Nat.lt_or_ge j k with h | h
     · exact hnw j h
     · rw [show j = k by omega]; exact g81)⟩
  refine go ?_
  have B175 := (hc4.kx u119)
  refine x_s fun w176 sw176 B178 u177 => ?_
  refine go ?_
  have D182 := ((mk103.keep u119 (CellsIn.none _)).keep u177 (B175).cellsIn)
  have hmkE := D182
  refine f_retMc1 (v := .int .i64 0) results66 (.cell D182 rfl isAgg3 B178 rfl) D182 (fun w180 u181 omw180 => ?_)
  have zu181 := u181.size
  have hres : 0 = brokP r l := by
    unfold brokP
    symm; rw [if_neg (by rw [hov]; decide), if_neg (by rw [hcn]; decide), if_neg (fun h9 => g50 (by rw [if_pos h9]; decide)), if_neg (fun h9 => by obtain ⟨s, hs, h9⟩ := List.any_eq_true.1 h9; obtain ⟨j, hj, rfl⟩ := List.mem_iff_getElem.1 hs; have h8 := hnw j (by omega); rw [nth_eq hj] at h8; exact h8 (by simpa using h9))]
  exact ⟨congrArg (Value.int .i64) hres, ((E120.u.next u177 (fun i hi h => by omega)).next u181 (fun i hi (h : w0.heap.size ≤ i) => show False by first | omega | assumption))⟩
theorem keeps_c (r : Rul) (l : List Sp) (al : Option Addr) (bl ol cl : Nat) (w0 : World) (hl : Sl encSp 2 w0 al bl ol l) (hll : l.length ≤ 100000) (hok : ∀ x ∈ l, OkSp x) (hr : okRul r = true) :
    CallsV Tryz.prog 61 [.agg #[.int .i64 r.rest, .int .i64 r.span, .int .i64 r.work, .int .i64 r.week, .int .i64 r.ww], .slice al l.length cl] w0 (fun v w' => v = .bool (decide (brokP r l = 0)) ∧ Ext w0 w') := by
 refine f_n func61 ?_
 refine go ?_
 refine x_b fun bk2 w3 ebk2 sbk2 B4 u5 => ?_
 refine go ?_
 refine x_c func66 rfl rfl (broken_c r l al bl ol cl _ (hl.keep ((Upd.refl (fun _ => False) w0).nx u5) (fun _ h => h)) hll hok hr) ?_
 rintro _ w9 ⟨rfl, u10⟩ zu10
 refine go ?_
 refine f_1 results61 ?_
 exact ⟨rfl, u_d⟩

end Go.Proofs.YtclinbbghnebaaaGreat
