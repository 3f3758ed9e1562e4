/-
  Part 3 of the proof: contracts and plain laws. Conditions: none.
-/
import Derived.Test.YtagmkfbbhfaceaaGreatDoorCK2
namespace Go.Proofs.YtagmkfbbhfaceaaGreatDoor
open Go Go.RowKit

/-! ### What is told of the program's types -/
structure Tb where
  sc : List Nat
  ag : List (Nat × Nat)
  sl : List (Nat × Nat × Nat)
  fd : List (Nat × List (Nat × Nat))
  el : List (Nat × Value × Nat × Nat)
  zv : List (Nat × Value)

def lk {α : Type} (k : Nat) : List (Nat × α) → Option α
  | [] => none
  | (j, v) :: r => match Nat.beq k j with
    | true => some v
    | false => lk k r
theorem lk_mem {α : Type} {k : Nat} {v : α} : ∀ {l : List (Nat × α)}, lk k l = some v → (k, v) ∈ l
  | (j, u) :: r, h => by
    simp only [lk] at h
    cases hb : Nat.beq k j with
    | true => rw [hb] at h; cases h; rw [Nat.eq_of_beq_eq_true hb]; simp
    | false => rw [hb] at h; exact List.mem_cons_of_mem _ (lk_mem h)
theorem map_same {α β : Type} {f g : α → β} : ∀ {l : List α}, l.map f = l.map g → ∀ x ∈ l, f x = g x
  | a :: l, h, x, hx => by
    simp only [List.map_cons, List.cons.injEq] at h
    rcases List.mem_cons.1 hx with rfl | hx
    · exact h.1
    · exact map_same h.2 x hx
class TbC (P : Program) where
  tb : Tb
  sc : ∀ w, tb.sc.map (fun t => (isAgg t).run P w) = tb.sc.map (fun _ => .ok false w)
  ag : ∀ w, tb.ag.map (fun p => ((isAgg p.1).run P w, (sizeOf p.1).run P w)) = tb.ag.map (fun p => (.ok true w, .ok p.2 w))
  sc1 : ∀ w, tb.sc.map (fun t => (sizeOf t).run P w) = tb.sc.map (fun _ => .ok 1 w)
  sl : ∀ w, tb.sl.map (fun p => (P.underlying p.1, (sizeOf p.2.1).run P w)) = tb.sl.map (fun p => (some (.slice p.2.1), .ok p.2.2 w))
  fd : tb.fd.map (fun p => match P.underlying p.1 with | some (.struct fs) => some (fs.toList.map fun f => (f.offset, f.type)) | _ => none) = tb.fd.map (fun p => some p.2)
  zv : ∀ w, tb.zv.map (fun p => (zeroValue p.1).run P w) = tb.zv.map (fun p => .ok p.2 w)
  el : tb.el.map (fun p => (P.info? p.1).map (fun i => (i.zero, i.size, i.bytes))) = tb.el.map (fun p => some (some p.2.1, p.2.2.1, p.2.2.2))
variable {P : Program}
theorem sc_ok [h : TbC P] {t : TypeId} (ht : memB t (TbC.tb P).sc = true) (w : World) : (isAgg t).run P w = .ok false w := map_same (h.sc w) t (memB_iff.1 ht)
theorem sc1_ok [h : TbC P] {t : TypeId} (ht : memB t (TbC.tb P).sc = true) (w : World) : (sizeOf t).run P w = .ok 1 w := map_same (h.sc1 w) t (memB_iff.1 ht)
theorem ag_ok [h : TbC P] {t n : Nat} (ht : lk t (TbC.tb P).ag = some n) (w : World) : (isAgg t).run P w = .ok true w ∧ (sizeOf t).run P w = .ok n w := by
  have := map_same (h.ag w) _ (lk_mem ht)
  simpa using this
theorem sl_ok [h : TbC P] {t e s : Nat} (ht : lk t (TbC.tb P).sl = some (e, s)) : P.underlying t = some (.slice e) ∧ ∀ w, (sizeOf e).run P w = .ok s w :=
  ⟨(Prod.mk.inj (map_same (h.sl default) _ (lk_mem ht))).1, fun w => (Prod.mk.inj (map_same (h.sl w) _ (lk_mem ht))).2⟩
theorem fd_ok [h : TbC P] {s : Nat} {l : List (Nat × Nat)} (ht : lk s (TbC.tb P).fd = some l) : ∃ fs, P.underlying s = some (.struct fs) ∧ fs.toList.map (fun f => (f.offset, f.type)) = l := by
  have := map_same h.fd _ (lk_mem ht)
  simp only [] at this
  split at this
  · rename_i fs hfs; exact ⟨fs, hfs, Option.some.inj this⟩
  · cases this
theorem zv_ok [h : TbC P] {e : Nat} {z : Value} (ht : lk e (TbC.tb P).zv = some z) (w : World) : (zeroValue e).run P w = .ok z w := map_same (h.zv w) _ (lk_mem ht)
/-- A type's size: of one cell, or of several. -/
def szO (tb : Tb) (t : Nat) : Option Nat := match memB t tb.sc with
  | true => some 1
  | false => lk t tb.ag
theorem szO_ok [h : TbC P] {t n : Nat} (ht : szO (TbC.tb P) t = some n) (w : World) : (sizeOf t).run P w = .ok n w := by
  unfold szO at ht
  split at ht
  · rename_i hm; cases ht; exact sc1_ok hm w
  · exact (ag_ok ht w).2

/-! ### Operations that only look at slots -/
def kB : IntKind → IntKind → Bool := fun k k' => Nat.beq k.ctorIdx k'.ctorIdx
def pvE (tb : Tb) (L : Slots) : Op → Option Value
  | .move x => ev L x
  | .assign x => ev L x
  | .pick c x y => match ev L c with
    | some (.bool true) => ev L x
    | some (.bool false) => ev L y
    | _ => none
  | .binOp op _ x y _ => match ev L x with
    | some (.int k m) => match ev L y with
      | some (.int k' n) => match kB k k' with
        | true => cmpI op m n
        | false => none
      | _ => none
    | _ => none
  | .unOp .not _ x => match ev L x with
    | some (.bool b) => some (.bool (!b))
    | _ => none
  | .extract x i => match ev L x with
    | some (.tuple vs) => vs.toList[i]?
    | _ => none
  | .fieldAddr s x i => match ev L x with
    | some (.pointer (some ⟨b, off, none⟩)) => match lk s tb.fd with
      | some l => match l[i]? with
        | some (o, t) => match szO tb t with
          | some (_ + 1) => some (.pointer (some ⟨b, off + o, none⟩))
          | _ => none
        | none => none
      | none => none
    | _ => none
  | .field s x i => match ev L x with
    | some (.agg cs) => match lk s tb.fd with
      | some l => match l[i]? with
        | some (o, t) => match memB t tb.sc with
          | true => cs.toList[o]?
          | false => none
        | none => none
      | none => none
    | _ => none
  | .nilCheck x => match ev L x with
    | some (.pointer (some a)) => some (.pointer (some a))
    | _ => none
  | .call ⟨.builtin .len, xs, ats⟩ => match xs.toList with
    | [x] => match ats.toList with
      | [t] => match lk t tb.sl with
        | some _ => match ev L x with
          | some (.slice _ n _) => some (.int .i64 (n : Int))
          | _ => none
        | none => none
      | _ => none
    | _ => none
  | _ => none
theorem kB_eq {k k' : IntKind} (h : kB k k' = true) : k = k' := by cases k <;> cases k' <;> first | rfl | cases h
theorem pvE_ok [TbC P] {N : Nat} {ds : List Deferred} {L : Slots} {a : Act} {op : Op} {v : Value} {d : Option Tmp} {ty : TypeId} {pos : String} {aft : Array Edge} {g : Option (Nat × Bool)} (h : pvE (TbC.tb P) L op = some v) (hk : Kn N ds L a) (w : World) :
    (execOp a.eval ⟨d, op, ty, pos, aft, g⟩).run P w = .ok (.value v) w := by
  unfold pvE at h
  split at h
  · simp [execOp, hk.ev h]
  · simp [execOp, hk.ev h]
  · split at h
    · rename_i hc; simp [execOp, hk.ev hc, asBool, hk.ev h]
    · rename_i hc; simp [execOp, hk.ev hc, asBool, hk.ev h]
    · cases h
  · rename_i op xt x y yt
    split at h
    · rename_i k m hx
      split at h
      · rename_i k' n hy
        split at h
        · rename_i hkk
          obtain rfl := kB_eq hkk
          have e1 := hk.ev hx
          have e2 := hk.ev hy
          cases op <;> simp [cmpI] at h <;> subst h <;> simp [execOp, e1, e2, eqGuard, binOp, Op.intCmp, Bool.beq_eq_decide_eq, bne] <;> first | done | rfl | (by_cases hmn : m = n <;> simp [hmn])
        · cases h
      · cases h
    · cases h
  · split at h
    · rename_i b hx; cases h; simp [execOp, hk.ev hx, Op.unary]
    · cases h
  · split at h
    · rename_i vs hx; simp [execOp, hk.ev hx, Instr.extract] ; simp at h; simp [h]
    · cases h
  · split at h
    · rename_i b off hx
      split at h
      · rename_i l hl
        split at h
        · rename_i o t ho
          split at h
          · rename_i n hn
            cases h
            obtain ⟨fs, hu, hf⟩ := fd_ok hl
            rename_i i
            rw [← hf] at ho
            simp at ho
            obtain ⟨f, hf1, hf2, hf3⟩ := ho
            subst hf2 hf3
            simp [execOp, hk.ev hx, Instr.fieldAt, run_underlying hu, hf1, Instr.sureAddr, fieldPlace, szO_ok hn, addr_add]
          · cases h
        · cases h
      · cases h
    · cases h
  · split at h
    · rename_i cs hx
      split at h
      · rename_i l hl
        split at h
        · rename_i o t ho
          split at h
          · rename_i hm
            obtain ⟨fs, hu, hf⟩ := fd_ok hl
            rw [← hf] at ho
            simp at ho
            obtain ⟨f, hf1, hf2, hf3⟩ := ho
            subst hf2 hf3
            simp at h
            simp [execOp, hk.ev hx, Instr.field, run_underlying hu, hf1, part, sc_ok hm, asAgg, h]
          · cases h
        · cases h
      · cases h
    · cases h
  · split at h
    · rename_i q hx; cases h; simp [execOp, hk.ev hx]
    · cases h
  · rename_i xs ats
    split at h
    · rename_i x hxs
      split at h
      · rename_i t hts
        split at h
        · rename_i p hp
          split at h
          · rename_i ao n cp hx
            cases h
            have e1 : xs = #[x] := Array.toList_inj.1 hxs
            have e2 : ats = #[t] := Array.toList_inj.1 hts
            subst e1 e2
            simp [execOp, resolve, invoke, builtin, Builtin.len_, run_underlying (sl_ok (e := p.1) (s := p.2) hp).1, hk.ev hx, goInt]
          · cases h
        · cases h
      · cases h
    · cases h
  · cases h

/-! ### The continuation as a list -/
inductive Kf where
  | sq (c : Code)
  | bl (id : Nat)
def QS (rd : Option Nat) (P : Program) (Q : Exit → Act → World → Prop) : List Kf → Exit → Act → World → Prop
  | [] => Q
  | .sq c :: k => Exit.then (fun a w => c.wpIn (rnd rd) 3 P (QS rd P Q k) a w) (QS rd P Q k)
  | .bl id :: k => Exit.inBlock id (QS rd P Q k)
section steps
variable {rd : Option Nat} {ops : Array Oper} {Q : Exit → Act → World → Prop} {k : List Kf} {N : Nat} {ds : List Deferred} {rest : List Oper} {L : Slots} {w : World} {c x y : Code}
theorem q_seq (h : WC rd P (QS rd P Q (.sq y :: k)) N ds x L w) : WC rd P (QS rd P Q k) N ds (.seq x y) L w :=
  ⟨fun a ha => wpIn_seq_k fun _ hK => Code.wpIn_mono (fun e a w hq => by cases e <;> first | exact hK _ _ hq | exact hq) (h a ha)⟩
theorem q_blk {id : Nat} (h : WC rd P (QS rd P Q (.bl id :: k)) N ds c L w) : WC rd P (QS rd P Q k) N ds (.block id c) L w := ⟨fun a ha => wpIn_block (h a ha)⟩
theorem n_sq (h : WC rd P (QS rd P Q k) N ds y L w) : QK (QS rd P Q (.sq y :: k) .normal) N ds L w := ⟨fun a ha => h a ha⟩
theorem n_bl {id : Nat} (h : QK (QS rd P Q k .normal) N ds L w) : QK (QS rd P Q (.bl id :: k) .normal) N ds L w := ⟨fun a ha => h a ha⟩
theorem x_sq {id : Nat} (h : QK (QS rd P Q k (.exit id)) N ds L w) : QK (QS rd P Q (.sq y :: k) (.exit id)) N ds L w := ⟨fun a ha => h a ha⟩
theorem x_hit {id : Nat} (h : QK (QS rd P Q k .normal) N ds L w) : QK (QS rd P Q (.bl id :: k) (.exit id)) N ds L w := ⟨fun a ha => by
  show (if id = id then _ else _)
  rw [if_pos rfl]; exact h a ha⟩
theorem x_mis {id id' : Nat} (e : Nat.beq id id' = false) (h : QK (QS rd P Q k (.exit id)) N ds L w) : QK (QS rd P Q (.bl id' :: k) (.exit id)) N ds L w := ⟨fun a ha => by
  show (if id = id' then _ else _)
  rw [if_neg (Nat.ne_of_beq_eq_false e)]; exact h a ha⟩
theorem r_sq (h : QK (QS rd P Q k .ret) N ds L w) : QK (QS rd P Q (.sq y :: k) .ret) N ds L w := ⟨fun a ha => h a ha⟩
theorem r_bl {id : Nat} (h : QK (QS rd P Q k .ret) N ds L w) : QK (QS rd P Q (.bl id :: k) .ret) N ds L w := ⟨fun a ha => h a ha⟩
theorem b_e {e : Exit} (h : QK (Q e) N ds L w) : QK (QS rd P Q [] e) N ds L w := h
theorem l_n {K : Act → World → Prop} (h : QK K N ds L w) : QK (Exit.then K Q .normal) N ds L w := ⟨fun a ha => h a ha⟩
theorem l_x {K : Act → World → Prop} {id : Nat} (h : QK (Q (.exit id)) N ds L w) : QK (Exit.then K Q (.exit id)) N ds L w := ⟨fun a ha => h a ha⟩
theorem l_r {K : Act → World → Prop} (h : QK (Q .ret) N ds L w) : QK (Exit.then K Q .ret) N ds L w := ⟨fun a ha => h a ha⟩
theorem q_of (h : WC rd P (QS rd P Q []) N ds c L w) : WC rd P Q N ds c L w := h

theorem q_loop {γ : Type} (Lf : γ → Slots) (Wf : γ → World → Prop) (μ : γ → Nat) (g0 : γ) (h0 : Sub (Lf g0) L) (hw : Wf g0 w)
    (step : ∀ g w', Wf g w' → ∀ K : Act → World → Prop, (∀ g' L'' w'', μ g' < μ g → Sub (Lf g') L'' → Wf g' w'' → QK K N ds L'' w'') → WC rd P (QS rd P (Exit.then K (QS rd P Q k)) []) N ds c (Lf g) w') :
    WC rd P (QS rd P Q k) N ds (.loop c) L w := c_loop Lf Wf μ g0 h0 hw step
theorem q_cut {γ : Type} (Lf : γ → Slots) (Wf : γ → World → Prop)
    (h1 : ∀ K : Act → World → Prop, (∀ g L' w', Sub (Lf g) L' → Wf g w' → QK K N ds L' w') → WC rd P (QS rd P (Exit.then K (QS rd P Q k)) []) N ds x L w)
    (h2 : ∀ g w', Wf g w' → WC rd P (QS rd P Q k) N ds y (Lf g) w') : WC rd P (QS rd P Q k) N ds (.seq x y) L w := c_cut Lf Wf h1 h2
/-- An order told by numbers: 2 i is an operation that looks, 2 i + 1 one of any kind. -/
def OTl : List Nat → OT
  | [] => .done
  | c :: r => match Nat.beq (c % 2) 1 with
    | true => .act (c / 2) (OTl r) .stop
    | false => .look (c / 2) (OTl r)
/-- What has come since another world. -/
structure Sc (S : Nat → Prop) (w w' : World) : Prop where
  u : Upd S w w'
/-- Block b reads as before. -/
structure Unt (b : Nat) (w w' : World) : Prop where
  sz : w.heap.size ≤ w'.heap.size
  eq : b < w.heap.size → w'.heap[b]? = w.heap[b]?
theorem Unt.refl (b : Nat) (w : World) : Unt b w w := ⟨Nat.le_refl _, fun _ => rfl⟩
theorem Unt.step {b : Nat} {S : Nat → Prop} {w w1 w2 : World} (h : Unt b w w1) (u : Upd S w1 w2) (hn : ¬ S b) : Unt b w w2 := ⟨Nat.le_trans h.sz u.size, fun hb => (u.block b (Nat.lt_of_lt_of_le hb h.sz) hn).trans (h.eq hb)⟩
theorem Blk.unt {w w' : World} {b : Nat} {t : TypeId} {cs : List Value} (h : Blk w b t cs) (u : Unt b w w') : Blk w' b t cs := (u.eq h.lt).trans h

/-! ### Steps that find what they need -/
variable {d : Nat} {ty : TypeId} {pos : String} {aft : Array Edge} {g : Option (Nat × Bool)}
theorem g_p [TbC P] {op : Op} {v : Value} (hv : pvE (TbC.tb P) L op = some v) (hg : grd ops L g = true) (hN : Nat.blt d N = true) (h : WL rd P ops Q N ds rest ((d, v) :: L) w) : WL rd P ops Q N ds (⟨some d, op, ty, pos, aft, g⟩ :: rest) L w :=
  WL.value hg rfl hN (fun _ hk => pvE_ok hv hk w) h
def tkF : Nat → List Value → (List Value → Option (List Value)) → Option (List Value)
  | 0, _, k => k []
  | n + 1, v :: r, k => tkF n r (fun l => k (v :: l))
  | _ + 1, [], _ => none
theorem tkF_ok : ∀ {n : Nat} {l vs : List Value} {k : List Value → Option (List Value)}, tkF n l k = some vs → ∃ u, k u = some vs ∧ l.take n = u ∧ u.length = n
  | 0, _, _, _, h => ⟨[], h, rfl, rfl⟩
  | n + 1, v :: r, vs, k, h => by
    obtain ⟨u, h1, h2, h3⟩ := tkF_ok (k := fun l => k (v :: l)) h
    exact ⟨v :: u, h1, by simp [h2], by simp [h3]⟩
/-- n cells from an offset on. -/
def sbF : Nat → Nat → List Value → Option (List Value)
  | 0, n, l => tkF n l some
  | o + 1, n, _ :: r => sbF o n r
  | _ + 1, _, [] => none
theorem sbF_ok : ∀ {o n : Nat} {l vs : List Value}, sbF o n l = some vs → (l.drop o).take n = vs ∧ vs.length = n
  | 0, n, l, vs, h => by
    obtain ⟨u, h1, h2, h3⟩ := tkF_ok h
    cases h1
    exact ⟨h2, h3⟩
  | o + 1, n, _ :: r, vs, h => sbF_ok (o := o) (l := r) h
theorem g_ld [TbC P] {w2 : World} {t t' : TypeId} {x : Operand} {b off : Nat} {cs : List Value} {v : Value} (hx : ev L x = some (.pointer (some ⟨b, off, none⟩))) (ht : memB t (TbC.tb P).sc = true) (hg : grd ops L g = true) (hN : Nat.blt d N = true) (hb : Blk w2 b t' cs) (hu : Unt b w2 w) (hv : cs[off]? = some v)
    (h : WL rd P ops Q N ds rest ((d, v) :: L) w) : WL rd P ops Q N ds (⟨some d, .load t x, ty, pos, aft, g⟩ :: rest) L w := t_load (sc_ok ht) hg hN hx ((hb.unt hu).get hv) h
theorem g_ldN [TbC P] {w2 : World} {t t' : TypeId} {x : Operand} {b off n : Nat} {cs vs : List Value} (hx : ev L x = some (.pointer (some ⟨b, off, none⟩))) (ht : lk t (TbC.tb P).ag = some n) (hg : grd ops L g = true) (hN : Nat.blt d N = true) (hb : Blk w2 b t' cs) (hu : Unt b w2 w) (hv : sbF off n cs = some vs)
    (h : WL rd P ops Q N ds rest ((d, .agg vs.toArray) :: L) w) : WL rd P ops Q N ds (⟨some d, .load t x, ty, pos, aft, g⟩ :: rest) L w := by
  obtain ⟨h1, h2⟩ := sbF_ok hv
  have h3 := (hb.unt hu).at.sub off n
  rw [h1, Nat.zero_add] at h3
  exact t_loadN (fun w => (ag_ok ht w).1) (fun w => (ag_ok ht w).2) hg hN hx h3 h2 h
/-- These cells lie there. -/
structure Al (w : World) (b off : Nat) (vs : List Value) : Prop where
  lt : b < w.heap.size
  at_ : At w b off vs
theorem Al.unt {w' : World} {b off : Nat} {vs : List Value} (h : Al w b off vs) (u : Unt b w w') : Al w' b off vs := ⟨Nat.lt_of_lt_of_le h.lt u.sz, fun j v hv => (World.cell?_of_block (w := w) (a := ⟨b, off + j, none⟩) (u.eq h.lt)).trans (h.at_ j v hv)⟩
theorem Al.keep {w' : World} {S : Nat → Prop} {b off : Nat} {vs : List Value} (h : Al w b off vs) (u : Upd S w w') (hn : ¬ S b) : Al w' b off vs := ⟨Nat.lt_of_lt_of_le h.lt u.size, h.at_.keep u h.lt hn⟩
theorem g_la [TbC P] {w2 : World} {t : TypeId} {x : Operand} {b off : Nat} {vs : List Value} {v : Value} (hx : ev L x = some (.pointer (some ⟨b, off, none⟩))) (ht : memB t (TbC.tb P).sc = true) (hg : grd ops L g = true) (hN : Nat.blt d N = true) (hb : Al w2 b off vs) (hu : Unt b w2 w) (hv : vs[0]? = some v)
    (h : WL rd P ops Q N ds rest ((d, v) :: L) w) : WL rd P ops Q N ds (⟨some d, .load t x, ty, pos, aft, g⟩ :: rest) L w := t_load (sc_ok ht) hg hN hx ((hb.unt hu).at_ 0 v hv) h
theorem g_lf [TbC P] {w2 : World} {t : TypeId} {x : Operand} {b off q : Nat} {vs : List Value} {v : Value} (hx : ev L x = some (.pointer (some ⟨b, off + q, none⟩))) (ht : memB t (TbC.tb P).sc = true) (hg : grd ops L g = true) (hN : Nat.blt d N = true) (hb : Al w2 b off vs) (hu : Unt b w2 w) (hv : vs[q]? = some v)
    (h : WL rd P ops Q N ds rest ((d, v) :: L) w) : WL rd P ops Q N ds (⟨some d, .load t x, ty, pos, aft, g⟩ :: rest) L w := t_load (sc_ok ht) hg hN hx ((hb.unt hu).at_ q v hv) h
theorem g_laN [TbC P] {w2 : World} {t : TypeId} {x : Operand} {b off n : Nat} {vs us : List Value} (hx : ev L x = some (.pointer (some ⟨b, off, none⟩))) (ht : lk t (TbC.tb P).ag = some n) (hg : grd ops L g = true) (hN : Nat.blt d N = true) (hb : Al w2 b off vs) (hu : Unt b w2 w) (hv : sbF 0 n vs = some us)
    (h : WL rd P ops Q N ds rest ((d, .agg us.toArray) :: L) w) : WL rd P ops Q N ds (⟨some d, .load t x, ty, pos, aft, g⟩ :: rest) L w := by
  obtain ⟨h1, h2⟩ := sbF_ok hv
  have h3 := (hb.unt hu).at_.sub 0 n
  rw [h1] at h3
  exact t_loadN (fun w => (ag_ok ht w).1) (fun w => (ag_ok ht w).2) hg hN hx h3 h2 h
theorem g_lfN [TbC P] {w2 : World} {t : TypeId} {x : Operand} {b off q n : Nat} {vs us : List Value} (hx : ev L x = some (.pointer (some ⟨b, off + q, none⟩))) (ht : lk t (TbC.tb P).ag = some n) (hg : grd ops L g = true) (hN : Nat.blt d N = true) (hb : Al w2 b off vs) (hu : Unt b w2 w) (hv : sbF q n vs = some us)
    (h : WL rd P ops Q N ds rest ((d, .agg us.toArray) :: L) w) : WL rd P ops Q N ds (⟨some d, .load t x, ty, pos, aft, g⟩ :: rest) L w := by
  obtain ⟨h1, h2⟩ := sbF_ok hv
  have h3 := (hb.unt hu).at_.sub q n
  rw [h1] at h3
  exact t_loadN (fun w => (ag_ok ht w).1) (fun w => (ag_ok ht w).2) hg hN hx h3 h2 h
theorem g_i {α : Type} [Inhabited α] [TbC P] {enc : α → List Value} {s : Nat} {t e : TypeId} {x i : Operand} {kk : IntKind} {ao : Option Addr} {b o len cap : Nat} {n : Int} {xs : List α} (j : Nat) (hs : Sl enc s w ao b o xs)
    (h : Al w b (o + j * s) (enc (nth xs j)) → WL rd P ops Q N ds rest ((d, .pointer (some ⟨b, o + j * s, none⟩)) :: L) w)
    (hx : ev L x = some (.slice ao len cap) := by rfl) (hi : ev L i = some (.int kk n) := by rfl) (ht : lk t (TbC.tb P).sl = some (e, s) := by rfl) (hg : grd ops L g = true := by rfl) (hN : Nat.blt d N = true := by rfl) (hj : n = (j : Int) := by first | rfl | omega) (hl : j < len := by omega) (hm : j < xs.length := by omega) : WL rd P ops Q N ds (⟨some d, .indexAddr t x i, ty, pos, aft, g⟩ :: rest) L w :=
  t_index (sl_ok ht).1 (sl_ok ht).2 hg hN hx hi (hs.addr (by omega)) hj hl (h ⟨hs.lt (by omega), hs.at_ j hm⟩)

/-! ### The same in a region that is walked in one order -/
variable {w1 : World} {S T : Nat → Prop} {r : OX}
theorem y_p [TbC P] {op : Op} {v : Value} (hv : pvE (TbC.tb P) L op = some v) (hg : grd ops L g = true) (hN : Nat.blt d N = true) (h : SC rd P ops Q N ds w1 S r ((d, v) :: L) w) : SC rd P ops Q N ds w1 S (.look ⟨some d, op, ty, pos, aft, g⟩ r) L w :=
  s_F hg rfl hN (fun _ hk w _ => pvE_ok hv hk w) h
theorem y_ld [TbC P] {w2 : World} {t t' : TypeId} {x : Operand} {b off : Nat} {cs : List Value} {v : Value} (hx : ev L x = some (.pointer (some ⟨b, off, none⟩))) (ht : memB t (TbC.tb P).sc = true) (hg : grd ops L g = true) (hN : Nat.blt d N = true) (hb : Blk w2 b t' cs) (hu : Unt b w2 w1) (hv : cs[off]? = some v) (hn : ¬ T b)
    (h : SC rd P ops Q N ds w1 (SW w1.heap.size T) r ((d, v) :: L) w) : SC rd P ops Q N ds w1 (SW w1.heap.size T) (.look ⟨some d, .load t x, ty, pos, aft, g⟩ r) L w := y_load (sc_ok ht) hg hN hx ((hb.unt hu).get hv) hn h
theorem y_ldN [TbC P] {w2 : World} {t t' : TypeId} {x : Operand} {b off n : Nat} {cs vs : List Value} (hx : ev L x = some (.pointer (some ⟨b, off, none⟩))) (ht : lk t (TbC.tb P).ag = some n) (hg : grd ops L g = true) (hN : Nat.blt d N = true) (hb : Blk w2 b t' cs) (hu : Unt b w2 w1) (hv : sbF off n cs = some vs) (hn : ¬ T b)
    (h : SC rd P ops Q N ds w1 (SW w1.heap.size T) r ((d, .agg vs.toArray) :: L) w) : SC rd P ops Q N ds w1 (SW w1.heap.size T) (.look ⟨some d, .load t x, ty, pos, aft, g⟩ r) L w := by
  obtain ⟨h1, h2⟩ := sbF_ok hv
  have h3 := (hb.unt hu).at.sub off n
  rw [h1, Nat.zero_add] at h3
  exact y_loadN (fun w => (ag_ok ht w).1) (fun w => (ag_ok ht w).2) hg hN hx h3 h2 hn h
/-! ### Values that are built of others -/
def evp (L : Slots) : List (Nat × Operand) → Option (List (Nat × Value))
  | [] => some []
  | (i, x) :: r => match ev L x with
    | some v => match evp L r with
      | some ps => some ((i, v) :: ps)
      | none => none
    | none => none
theorem evp_ok {L : Slots} : ∀ {l : List (Nat × Operand)} {ps : List (Nat × Value)}, evp L l = some ps → evs L (l.map (·.2)) = some (ps.map (·.2)) ∧ l.map (·.1) = ps.map (·.1)
  | [], ps, h => by cases h; exact ⟨rfl, rfl⟩
  | (i, x) :: r, ps, h => by
    simp only [evp] at h
    split at h
    · rename_i v hv
      split at h
      · rename_i qs hq
        cases h
        have := evp_ok hq
        simp [evs, hv, this.1, this.2]
      · cases h
    · cases h
/-- A value's cells. -/
def clO : Value → Option (List Value)
  | .agg a => match a with
    | ⟨l⟩ => some l
  | v => some [v]
theorem clO_ok {v : Value} {l : List Value} (h : clO v = some l) : v.cells = l.toArray := by
  cases v <;> simp only [clO] at h <;> cases h <;> rfl
def rpF : List Value → List Value → Option (List Value)
  | [], r => some r
  | v :: vs, _ :: r => match rpF vs r with
    | some l => some (v :: l)
    | none => none
  | _ :: _, [] => none
/-- Cells written over others. -/
def ovF : Nat → List Value → List Value → Option (List Value)
  | 0, cs, vs => rpF vs cs
  | n + 1, c :: cs, vs => match ovF n cs vs with
    | some l => some (c :: l)
    | none => none
  | _ + 1, [], _ => none
theorem rpF_ok : ∀ {vs cs l : List Value}, rpF vs cs = some l → l = vs ++ cs.drop vs.length ∧ vs.length ≤ cs.length
  | [], r, l, h => by cases h; simp
  | v :: vs, c :: r, l, h => by
    simp only [rpF] at h
    split at h
    · rename_i l' hl
      cases h
      have := rpF_ok hl
      exact ⟨by rw [this.1]; simp, by simp; omega⟩
    · cases h
theorem ovF_ok : ∀ {n : Nat} {cs vs l : List Value}, ovF n cs vs = some l → l = cs.take n ++ vs ++ cs.drop (n + vs.length) ∧ n + vs.length ≤ cs.length
  | 0, cs, vs, l, h => by
    have := rpF_ok (show rpF vs cs = some l from h)
    exact ⟨by rw [this.1]; simp, by omega⟩
  | n + 1, c :: cs, vs, l, h => by
    simp only [ovF] at h
    split at h
    · rename_i l' hl
      cases h
      have := ovF_ok hl
      refine ⟨?_, by simp; omega⟩
      rw [this.1, show n + 1 + vs.length = (n + vs.length) + 1 from by omega]; simp
    · cases h
theorem lay_ov : ∀ (vs cs : List Value) (n : Nat), n + vs.length ≤ cs.length → lay cs n vs = cs.take n ++ vs ++ cs.drop (n + vs.length)
  | [], cs, n, h => by simp [lay]
  | v :: vs, cs, n, h => by
    simp only [List.length_cons] at h
    rw [lay, lay_ov vs (cs.set n v) (n + 1) (by rw [List.length_set]; omega)]
    apply List.ext_getElem?
    intro i
    have hn : n < cs.length := by omega
    by_cases h1 : i < n
    · rw [List.append_assoc, List.append_assoc, List.getElem?_append_left (by simp; omega), List.getElem?_append_left (by simp; omega), List.getElem?_take_of_lt (by omega), List.getElem?_take_of_lt h1, List.getElem?_set_ne (by omega)]
    · have e1 : ((cs.set n v).take (n + 1)) = cs.take n ++ [v] := by
        rw [List.take_set, List.take_succ_eq_append_getElem hn, List.set_append_right _ _ (by simp; omega)]
        simp [Nat.min_eq_left (Nat.le_of_lt hn)]
      have e2 : (cs.set n v).drop (n + 1 + vs.length) = cs.drop (n + (v :: vs).length) := by
        rw [List.drop_set_of_lt (by omega)]; congr 1; simp; omega
      rw [e1, e2]; simp
/-- The cells of parts, one behind the other. -/
def apF : List Value → List Value → Option (List Value)
  | [], l => some l
  | x :: r, l => match apF r l with
    | some m => some (x :: m)
    | none => none
def csF : List (Nat × Value) → Option (List Value)
  | [] => some []
  | (_, v) :: r => match csF r with
    | some l => match clO v with
      | some vs => apF vs l
      | none => none
    | none => none
def blF (fs : List (Nat × Nat)) : List (Nat × Value) → List Value → Option (List Value)
  | [], cs => some cs
  | (i, v) :: r, cs => match fs[i]? with
    | some (o, _) => match clO v with
      | some vs => match ovF o cs vs with
        | some cs' => blF fs r cs'
        | none => none
      | none => none
    | none => none
/-- A struct's cells out of its parts: read out of the tables; what it says is shown by running it. -/
def bdF (tb : Tb) (t : Nat) (ps : List (Nat × Value)) : Option (List Value) := match lk t tb.zv with
  | some z => match clO z with
    | some cs => match lk t tb.fd with
      | some fs => blF fs ps cs
      | none => none
    | none => none
  | none => none
theorem g_bd [TbC P] {t : TypeId} {parts : Array (Nat × Operand)} {ps : List (Nat × Value)} {cs : List Value} (hp : evp L parts.toList = some ps) (hc : bdF (TbC.tb P) t ps = some cs) (hg : grd ops L g = true) (hN : Nat.blt d N = true)
    (hr : ∀ w, (Instr.build t ps.toArray).run P w = .ok (.agg cs.toArray) w) (h : WL rd P ops Q N ds rest ((d, .agg cs.toArray) :: L) w) : WL rd P ops Q N ds (⟨some d, .build t parts, ty, pos, aft, g⟩ :: rest) L w :=
  have _ := hc
  t_build hg hN (evp_ok hp) hr h
theorem y_bd [TbC P] {t : TypeId} {parts : Array (Nat × Operand)} {ps : List (Nat × Value)} {cs : List Value} (hp : evp L parts.toList = some ps) (hc : bdF (TbC.tb P) t ps = some cs) (hg : grd ops L g = true) (hN : Nat.blt d N = true)
    (hr : ∀ w, (Instr.build t ps.toArray).run P w = .ok (.agg cs.toArray) w) (h : SC rd P ops Q N ds w1 S r ((d, .agg cs.toArray) :: L) w) : SC rd P ops Q N ds w1 S (.look ⟨some d, .build t parts, ty, pos, aft, g⟩ r) L w :=
  have _ := hc
  y_build hg hN (evp_ok hp) hr h
theorem y_la [TbC P] {w2 : World} {t : TypeId} {x : Operand} {b off : Nat} {vs : List Value} {v : Value} (hx : ev L x = some (.pointer (some ⟨b, off, none⟩))) (ht : memB t (TbC.tb P).sc = true) (hg : grd ops L g = true) (hN : Nat.blt d N = true) (hb : Al w2 b off vs) (hu : Unt b w2 w1) (hv : vs[0]? = some v) (hn : ¬ T b)
    (h : SC rd P ops Q N ds w1 (SW w1.heap.size T) r ((d, v) :: L) w) : SC rd P ops Q N ds w1 (SW w1.heap.size T) (.look ⟨some d, .load t x, ty, pos, aft, g⟩ r) L w := y_load (sc_ok ht) hg hN hx ((hb.unt hu).at_ 0 v hv) hn h
theorem y_lf [TbC P] {w2 : World} {t : TypeId} {x : Operand} {b off q : Nat} {vs : List Value} {v : Value} (hx : ev L x = some (.pointer (some ⟨b, off + q, none⟩))) (ht : memB t (TbC.tb P).sc = true) (hg : grd ops L g = true) (hN : Nat.blt d N = true) (hb : Al w2 b off vs) (hu : Unt b w2 w1) (hv : vs[q]? = some v) (hn : ¬ T b)
    (h : SC rd P ops Q N ds w1 (SW w1.heap.size T) r ((d, v) :: L) w) : SC rd P ops Q N ds w1 (SW w1.heap.size T) (.look ⟨some d, .load t x, ty, pos, aft, g⟩ r) L w := y_load (sc_ok ht) hg hN hx ((hb.unt hu).at_ q v hv) hn h
theorem y_laN [TbC P] {w2 : World} {t : TypeId} {x : Operand} {b off n : Nat} {vs us : List Value} (hx : ev L x = some (.pointer (some ⟨b, off, none⟩))) (ht : lk t (TbC.tb P).ag = some n) (hg : grd ops L g = true) (hN : Nat.blt d N = true) (hb : Al w2 b off vs) (hu : Unt b w2 w1) (hv : sbF 0 n vs = some us) (hn : ¬ T b)
    (h : SC rd P ops Q N ds w1 (SW w1.heap.size T) r ((d, .agg us.toArray) :: L) w) : SC rd P ops Q N ds w1 (SW w1.heap.size T) (.look ⟨some d, .load t x, ty, pos, aft, g⟩ r) L w := by
  obtain ⟨h1, h2⟩ := sbF_ok hv
  have h3 := (hb.unt hu).at_.sub 0 n
  rw [h1] at h3
  exact y_loadN (fun w => (ag_ok ht w).1) (fun w => (ag_ok ht w).2) hg hN hx h3 h2 hn h
theorem y_lfN [TbC P] {w2 : World} {t : TypeId} {x : Operand} {b off q n : Nat} {vs us : List Value} (hx : ev L x = some (.pointer (some ⟨b, off + q, none⟩))) (ht : lk t (TbC.tb P).ag = some n) (hg : grd ops L g = true) (hN : Nat.blt d N = true) (hb : Al w2 b off vs) (hu : Unt b w2 w1) (hv : sbF q n vs = some us) (hn : ¬ T b)
    (h : SC rd P ops Q N ds w1 (SW w1.heap.size T) r ((d, .agg us.toArray) :: L) w) : SC rd P ops Q N ds w1 (SW w1.heap.size T) (.look ⟨some d, .load t x, ty, pos, aft, g⟩ r) L w := by
  obtain ⟨h1, h2⟩ := sbF_ok hv
  have h3 := (hb.unt hu).at_.sub q n
  rw [h1] at h3
  exact y_loadN (fun w => (ag_ok ht w).1) (fun w => (ag_ok ht w).2) hg hN hx h3 h2 hn h
theorem y_i {α : Type} [Inhabited α] [TbC P] {enc : α → List Value} {s : Nat} {t e : TypeId} {x i : Operand} {kk : IntKind} {ao : Option Addr} {b o len cap : Nat} {n : Int} {xs : List α} (j : Nat) (hs : Sl enc s w1 ao b o xs)
    (h : Al w1 b (o + j * s) (enc (nth xs j)) → SC rd P ops Q N ds w1 S r ((d, .pointer (some ⟨b, o + j * s, none⟩)) :: L) w)
    (hx : ev L x = some (.slice ao len cap) := by rfl) (hi : ev L i = some (.int kk n) := by rfl) (ht : lk t (TbC.tb P).sl = some (e, s) := by rfl) (hg : grd ops L g = true := by rfl) (hN : Nat.blt d N = true := by rfl) (hj : n = (j : Int) := by first | rfl | omega) (hl : j < len := by omega) (hm : j < xs.length := by omega) : SC rd P ops Q N ds w1 S (.look ⟨some d, .indexAddr t x i, ty, pos, aft, g⟩ r) L w :=
  y_index (sl_ok ht).1 (sl_ok ht).2 hg hN hx hi (hs.addr (by omega)) hj hl (h ⟨hs.lt (by omega), hs.at_ j hm⟩)

theorem g_not {xt : TypeId} {x : Operand} {b : Bool} {p : Prop} [Decidable p] (hx : ev L x = some (.bool b)) (hb : b = decide p) (hg : grd ops L g = true) (hN : Nat.blt d N = true)
    (h : WL rd P ops Q N ds rest ((d, .bool (decide (¬ p))) :: L) w) : WL rd P ops Q N ds (⟨some d, .unOp .not xt x, ty, pos, aft, g⟩ :: rest) L w := by subst hb; exact t_notp hg hN hx h
theorem y_nop {xt : TypeId} {x : Operand} {b : Bool} {p : Prop} [Decidable p] (hx : ev L x = some (.bool b)) (hb : b = decide p) (hg : grd ops L g = true) (hN : Nat.blt d N = true)
    (h : SC rd P ops Q N ds w1 S r ((d, .bool (decide (¬ p))) :: L) w) : SC rd P ops Q N ds w1 S (.look ⟨some d, .unOp .not xt x, ty, pos, aft, g⟩ r) L w := by subst hb; exact y_notp hg hN hx h
/-! ### Operations that turn memory -/
theorem x_b {e : TypeId} {x : Operand} {v : Value} {cs : List Value} (h : ∀ b w', b = w.heap.size → w'.heap.size = w.heap.size + 1 → Blk w' b e cs → Ext w w' → WL rd P ops Q N ds rest ((d, .pointer (some ⟨b, 0, none⟩)) :: L) w')
    (hx : ev L x = some v := by rfl) (hc : clO v = some cs := by rfl) (hg : grd ops L g = true := by rfl) (hN : Nat.blt d N = true := by rfl) : WL rd P ops Q N ds (⟨some d, .box e x, ty, pos, aft, g⟩ :: rest) L w := t_box hg hN hx (clO_ok hc) h
theorem x_n [TbC P] {e : TypeId} {z : Value} {cs : List Value} (h : ∀ b w', b = w.heap.size → w'.heap.size = w.heap.size + 1 → Blk w' b e cs → Ext w w' → WL rd P ops Q N ds rest ((d, .pointer (some ⟨b, 0, none⟩)) :: L) w')
    (hz : lk e (TbC.tb P).zv = some z := by rfl) (hc : clO z = some cs := by rfl) (hg : grd ops L g = true := by rfl) (hN : Nat.blt d N = true := by rfl) : WL rd P ops Q N ds (⟨some d, .alloc e, ty, pos, aft, g⟩ :: rest) L w := t_alloc (zv_ok hz) (clO_ok hc) hg hN h
theorem x_l [TbC P] {t e s n : Nat} {parts : Array (Nat × Operand)} {ps : List (Nat × Value)} {cs : List Value} (h : ∀ b w', b = w.heap.size → w'.heap.size = w.heap.size + 1 → Blk w' b e cs → Ext w w' → WL rd P ops Q N ds rest ((d, .slice (some ⟨b, 0, none⟩) n n) :: L) w')
    (hp : evp L parts.toList = some ps := by rfl) (hc : csF ps = some cs := by rfl) (ht : lk t (TbC.tb P).sl = some (e, s) := by rfl) (hr : ∀ w, (Instr.buildSlice t n ps.toArray).run P w = .ok (.slice (some ⟨w.heap.size, 0, none⟩) n n) (w.alloc (.cells cs.toArray e)) := by intro w; kernel_rfl) (hg : grd ops L g = true := by rfl) (hN : Nat.blt d N = true := by rfl) :
    WL rd P ops Q N ds (⟨some d, .buildSlice t n parts, ty, pos, aft, g⟩ :: rest) L w :=
  have _ := hc; have _ := ht
  t_bslice hg hN (evp_ok hp) hr h
theorem x_s [TbC P] {t u : TypeId} {x y : Operand} {b off n : Nat} {cs cs' vs : List Value} {v : Value} {w2 : World} (h : ∀ w', w'.heap.size = w.heap.size → Blk w' b t cs' → Upd (· = b) w w' → WL rd P ops Q N ds rest L w')
    (hx : ev L x = some (.pointer (some ⟨b, off, none⟩)) := by rfl) (hy : ev L y = some v := by rfl) (hb : Blk w2 b t cs := by assumption) (hu : Unt b w2 w := by (repeat first | exact Unt.refl _ _ | refine Unt.step ?_ (by assumption) (by first | exact fun h => h | assumption | (intro h; omega))); first | done | fail) (hc : clO v = some vs := by rfl) (ho : ovF off cs vs = some cs' := by rfl) (hs : szO (TbC.tb P) u = some n := by rfl) (hn : Nat.beq vs.length n = true := by rfl) (hv : vs.all Value.oneCell' = true := by rfl) (hg : grd ops L g = true := by rfl) :
    WL rd P ops Q N ds (⟨none, .store u x y, ty, pos, aft, g⟩ :: rest) L w := by
  obtain ⟨e1, e2⟩ := ovF_ok ho
  have e3 := Nat.eq_of_beq_eq_true hn
  refine t_store (szO_ok hs) hg hx hy (hb.unt hu) (clO_ok hc) e3 (by omega) (List.all_eq_true.1 hv) fun w' h1 h2 h3 => h w' h1 ?_ h3
  rw [lay_ov _ _ _ e2] at h2
  rwa [e1]
/-- A call: what its contract says, and how much memory there is behind it. -/
theorem x_c {f : Operand} {k : FuncId} {fn : Func} {xs : Array Operand} {ats : Array TypeId} {fs cs vs : List Value} {R : Value → World → Prop} {S : Nat → Prop} (hf : P.funcs[k]? = some fn) (hx : ev L f = some (.func (.func k) fs.toArray cs.toArray)) (hv : evs L xs.toList = some vs) (hc : CallsV P k (fs ++ vs ++ cs) w (fun v w' => R v w' ∧ Upd S w w'))
    (h : ∀ v w', R v w' ∧ Upd S w w' → w.heap.size ≤ w'.heap.size → WL rd P ops Q N ds rest ((d, v) :: L) w')
    (h1 : (fn.name == "runtime.NumGoroutine") = false := by kernel_rfl) (h2 : fn.body.isNone = false := by kernel_rfl) (hg : grd ops L g = true := by rfl) (hN : Nat.blt d N = true := by rfl) :
    WL rd P ops Q N ds (⟨some d, .call ⟨.value f, xs, ats⟩, ty, pos, aft, g⟩ :: rest) L w :=
  t_call ⟨fn, hf, h1, h2⟩ hg hN hx hv hc fun v w' r => h v w' r r.2.size
theorem q_p {o : Operand} {p : Prop} [Decidable p] (ht : p → WC rd P Q N ds x L w) (hf : ¬ p → WC rd P Q N ds y L w) (ho : ev L o = some (.bool (decide p)) := by rfl) : WC rd P Q N ds (.cond o x y) L w := c_condp ho ht hf
theorem q_b {o : Operand} {b : Bool} (ht : b = true → WC rd P Q N ds x L w) (hf : b = false → WC rd P Q N ds y L w) (ho : ev L o = some (.bool b) := by rfl) : WC rd P Q N ds (.cond o x y) L w := c_cond ho ht hf
theorem f_n {R : Value → World → Prop} {f : FuncId} {fn : Func} {vs : List Value} (hf : P.funcs[f]? = some fn) (h : WC none P (QS none P (bodyPost P fn fun e w' => ∃ v, e = .returned v ∧ R v w') []) N [] c (args 0 vs) w)
    (hb : fn.body = some c := by rfl) (hN : fn.ntmps = N := by rfl) (hn : Nat.ble vs.length N = true := by rfl) : CallsV P f vs w R := f_enter hf hb hn hN h
theorem f_1 {R : Value → World → Prop} {fn : Func} {r : ResultVar} {v : Value} (hf : fn.results = #[r]) (hR : R v w) (h1 : Res P w L r v := by rfl) : QK (bodyPost P fn (fun e w' => ∃ v, e = .returned v ∧ R v w') .ret) N [] L w := f_ret1 hf h1 hR
/-- What has come since, out of the steps. -/
theorem u_d {S : Nat → Prop} {w w' : World} (h : Upd S w w' := by (repeat first | exact Upd.refl _ _ | assumption | refine Upd.next ?_ (by assumption) (by intro i hi h; first | exact False.elim h | omega | assumption | exact Or.inl h)); first | done | fail) : Upd S w w' := h
/-! ### Loops and ways that meet: slots that stay are named by their numbers -/
def kpF : List Nat → Slots → Option Slots
  | [], _ => some []
  | k :: r, L => match look k L with
    | some v => match kpF r L with
      | some l => some ((k, v) :: l)
      | none => none
    | none => none
def cat : Slots → Slots → Slots
  | [], m => m
  | p :: l, m => p :: cat l m
theorem x_l1 {γ : Type} (S : Nat → Prop) (ks : List Nat) (Lf : γ → Slots) (Wf : γ → World → Prop) (μ : γ → Nat) (a1 : γ) {L1 : Slots} (hw : Wf a1 w)
    (step : ∀ (g1 : γ) (w' : World), Wf g1 w' → Upd S w w' → w.heap.size ≤ w'.heap.size → ∀ K : Act → World → Prop, (∀ (h1 : γ) {L'' : Slots} {w'' : World}, Wf h1 w'' → (hm : μ h1 < μ g1 := by omega) → (hs : Sub (cat (Lf h1) L1) L'' := by (repeat first | exact True.intro | refine And.intro rfl ?_); first | done | fail) → (hu : Upd S w w'' := by exact u_d) → QK K N ds L'' w'') → WC rd P (QS rd P (Exit.then K (QS rd P Q k)) []) N ds c (cat (Lf g1) L1) w')
    (hL : kpF ks L = some L1 := by rfl) (h0 : Sub (cat (Lf a1) L1) L := by (repeat first | exact True.intro | refine And.intro rfl ?_); first | done | fail) : WC rd P (QS rd P Q k) N ds (.loop c) L w :=
  have _ := hL
  q_loop (fun g => cat (Lf g) L1) (fun g w' => Wf g w' ∧ Upd S w w') μ a1 h0 ⟨hw, Upd.refl _ _⟩ fun g w' hW K hK => step g w' hW.1 hW.2 hW.2.size K fun g' _ _ h1 hm hs hu => hK g' _ _ hm hs ⟨h1, hu⟩
theorem x_k1 {γ : Type} (S : Nat → Prop) (ks : List Nat) (Lf : γ → Slots) (Wf : γ → World → Prop) {L1 : Slots}
    (h1 : ∀ K : Act → World → Prop, (∀ (g1 : γ) {L'' : Slots} {w'' : World}, Wf g1 w'' → (hs : Sub (cat (Lf g1) L1) L'' := by (repeat first | exact True.intro | refine And.intro rfl ?_); first | done | fail) → (hu : Upd S w w'' := by exact u_d) → QK K N ds L'' w'') → WC rd P (QS rd P (Exit.then K (QS rd P Q k)) []) N ds x L w)
    (h2 : ∀ (g1 : γ) (w' : World), Wf g1 w' → Upd S w w' → w.heap.size ≤ w'.heap.size → WC rd P (QS rd P Q k) N ds y (cat (Lf g1) L1) w') (hL : kpF ks L = some L1 := by rfl) : WC rd P (QS rd P Q k) N ds (.seq x y) L w :=
  have _ := hL
  q_cut (fun g => cat (Lf g) L1) (fun g w' => Wf g w' ∧ Upd S w w') (fun K hK => h1 K fun g _ _ h hs hu => hK g _ _ hs ⟨h, hu⟩) fun g w' h => h2 g w' h.1 h.2 h.2.size
theorem x_l2 {γ1 γ2 : Type} (S : Nat → Prop) (ks : List Nat) (Lf : γ1 → γ2 → Slots) (Wf : γ1 → γ2 → World → Prop) (μ : γ1 → γ2 → Nat) (a1 : γ1) (a2 : γ2) {L1 : Slots} (hw : Wf a1 a2 w)
    (step : ∀ (g1 : γ1) (g2 : γ2) (w' : World), Wf g1 g2 w' → Upd S w w' → w.heap.size ≤ w'.heap.size → ∀ K : Act → World → Prop, (∀ (h1 : γ1) (h2 : γ2) {L'' : Slots} {w'' : World}, Wf h1 h2 w'' → (hm : μ h1 h2 < μ g1 g2 := by omega) → (hs : Sub (cat (Lf h1 h2) L1) L'' := by (repeat first | exact True.intro | refine And.intro rfl ?_); first | done | fail) → (hu : Upd S w w'' := by exact u_d) → QK K N ds L'' w'') → WC rd P (QS rd P (Exit.then K (QS rd P Q k)) []) N ds c (cat (Lf g1 g2) L1) w')
    (hL : kpF ks L = some L1 := by rfl) (h0 : Sub (cat (Lf a1 a2) L1) L := by (repeat first | exact True.intro | refine And.intro rfl ?_); first | done | fail) : WC rd P (QS rd P Q k) N ds (.loop c) L w :=
  have _ := hL
  x_l1 (γ := γ1 × γ2) S ks (fun q => Lf q.1 q.2) (fun q => Wf q.1 q.2) (fun q => μ q.1 q.2) (a1, a2) hw (fun q w' h1 h2 h3 K hK => step q.1 q.2 w' h1 h2 h3 K fun h1 h2 _ _ hw9 hm hs hu => hK (h1, h2) hw9 hm hs hu) hL h0
theorem x_l4 {γ1 γ2 γ3 γ4 : Type} (S : Nat → Prop) (ks : List Nat) (Lf : γ1 → γ2 → γ3 → γ4 → Slots) (Wf : γ1 → γ2 → γ3 → γ4 → World → Prop) (μ : γ1 → γ2 → γ3 → γ4 → Nat) (a1 : γ1) (a2 : γ2) (a3 : γ3) (a4 : γ4) {L1 : Slots} (hw : Wf a1 a2 a3 a4 w)
    (step : ∀ (g1 : γ1) (g2 : γ2) (g3 : γ3) (g4 : γ4) (w' : World), Wf g1 g2 g3 g4 w' → Upd S w w' → w.heap.size ≤ w'.heap.size → ∀ K : Act → World → Prop, (∀ (h1 : γ1) (h2 : γ2) (h3 : γ3) (h4 : γ4) {L'' : Slots} {w'' : World}, Wf h1 h2 h3 h4 w'' → (hm : μ h1 h2 h3 h4 < μ g1 g2 g3 g4 := by omega) → (hs : Sub (cat (Lf h1 h2 h3 h4) L1) L'' := by (repeat first | exact True.intro | refine And.intro rfl ?_); first | done | fail) → (hu : Upd S w w'' := by exact u_d) → QK K N ds L'' w'') → WC rd P (QS rd P (Exit.then K (QS rd P Q k)) []) N ds c (cat (Lf g1 g2 g3 g4) L1) w')
    (hL : kpF ks L = some L1 := by rfl) (h0 : Sub (cat (Lf a1 a2 a3 a4) L1) L := by (repeat first | exact True.intro | refine And.intro rfl ?_); first | done | fail) : WC rd P (QS rd P Q k) N ds (.loop c) L w :=
  have _ := hL
  x_l1 (γ := γ1 × γ2 × γ3 × γ4) S ks (fun q => Lf q.1 q.2.1 q.2.2.1 q.2.2.2) (fun q => Wf q.1 q.2.1 q.2.2.1 q.2.2.2) (fun q => μ q.1 q.2.1 q.2.2.1 q.2.2.2) (a1, a2, a3, a4) hw (fun q w' h1 h2 h3 K hK => step q.1 q.2.1 q.2.2.1 q.2.2.2 w' h1 h2 h3 K fun h1 h2 h3 h4 _ _ hw9 hm hs hu => hK (h1, h2, h3, h4) hw9 hm hs hu) hL h0
theorem x_k4 {γ1 γ2 γ3 γ4 : Type} (S : Nat → Prop) (ks : List Nat) (Lf : γ1 → γ2 → γ3 → γ4 → Slots) (Wf : γ1 → γ2 → γ3 → γ4 → World → Prop) {L1 : Slots}
    (h1 : ∀ K : Act → World → Prop, (∀ (g1 : γ1) (g2 : γ2) (g3 : γ3) (g4 : γ4) {L'' : Slots} {w'' : World}, Wf g1 g2 g3 g4 w'' → (hs : Sub (cat (Lf g1 g2 g3 g4) L1) L'' := by (repeat first | exact True.intro | refine And.intro rfl ?_); first | done | fail) → (hu : Upd S w w'' := by exact u_d) → QK K N ds L'' w'') → WC rd P (QS rd P (Exit.then K (QS rd P Q k)) []) N ds x L w)
    (h2 : ∀ (g1 : γ1) (g2 : γ2) (g3 : γ3) (g4 : γ4) (w' : World), Wf g1 g2 g3 g4 w' → Upd S w w' → w.heap.size ≤ w'.heap.size → WC rd P (QS rd P Q k) N ds y (cat (Lf g1 g2 g3 g4) L1) w') (hL : kpF ks L = some L1 := by rfl) : WC rd P (QS rd P Q k) N ds (.seq x y) L w :=
  have _ := hL
  x_k1 (γ := γ1 × γ2 × γ3 × γ4) S ks (fun q => Lf q.1 q.2.1 q.2.2.1 q.2.2.2) (fun q => Wf q.1 q.2.1 q.2.2.1 q.2.2.2) (fun K hK => h1 K fun g1 g2 g3 g4 _ _ h hs hu => hK (g1, g2, g3, g4) h hs hu) (fun q w' h3 h4 h5 => h2 q.1 q.2.1 q.2.2.1 q.2.2.2 w' h3 h4 h5) hL
theorem x_l5 {γ1 γ2 γ3 γ4 γ5 : Type} (S : Nat → Prop) (ks : List Nat) (Lf : γ1 → γ2 → γ3 → γ4 → γ5 → Slots) (Wf : γ1 → γ2 → γ3 → γ4 → γ5 → World → Prop) (μ : γ1 → γ2 → γ3 → γ4 → γ5 → Nat) (a1 : γ1) (a2 : γ2) (a3 : γ3) (a4 : γ4) (a5 : γ5) {L1 : Slots} (hw : Wf a1 a2 a3 a4 a5 w)
    (step : ∀ (g1 : γ1) (g2 : γ2) (g3 : γ3) (g4 : γ4) (g5 : γ5) (w' : World), Wf g1 g2 g3 g4 g5 w' → Upd S w w' → w.heap.size ≤ w'.heap.size → ∀ K : Act → World → Prop, (∀ (h1 : γ1) (h2 : γ2) (h3 : γ3) (h4 : γ4) (h5 : γ5) {L'' : Slots} {w'' : World}, Wf h1 h2 h3 h4 h5 w'' → (hm : μ h1 h2 h3 h4 h5 < μ g1 g2 g3 g4 g5 := by omega) → (hs : Sub (cat (Lf h1 h2 h3 h4 h5) L1) L'' := by (repeat first | exact True.intro | refine And.intro rfl ?_); first | done | fail) → (hu : Upd S w w'' := by exact u_d) → QK K N ds L'' w'') → WC rd P (QS rd P (Exit.then K (QS rd P Q k)) []) N ds c (cat (Lf g1 g2 g3 g4 g5) L1) w')
    (hL : kpF ks L = some L1 := by rfl) (h0 : Sub (cat (Lf a1 a2 a3 a4 a5) L1) L := by (repeat first | exact True.intro | refine And.intro rfl ?_); first | done | fail) : WC rd P (QS rd P Q k) N ds (.loop c) L w :=
  have _ := hL
  x_l1 (γ := γ1 × γ2 × γ3 × γ4 × γ5) S ks (fun q => Lf q.1 q.2.1 q.2.2.1 q.2.2.2.1 q.2.2.2.2) (fun q => Wf q.1 q.2.1 q.2.2.1 q.2.2.2.1 q.2.2.2.2) (fun q => μ q.1 q.2.1 q.2.2.1 q.2.2.2.1 q.2.2.2.2) (a1, a2, a3, a4, a5) hw (fun q w' h1 h2 h3 K hK => step q.1 q.2.1 q.2.2.1 q.2.2.2.1 q.2.2.2.2 w' h1 h2 h3 K fun h1 h2 h3 h4 h5 _ _ hw9 hm hs hu => hK (h1, h2, h3, h4, h5) hw9 hm hs hu) hL h0
theorem x_k5 {γ1 γ2 γ3 γ4 γ5 : Type} (S : Nat → Prop) (ks : List Nat) (Lf : γ1 → γ2 → γ3 → γ4 → γ5 → Slots) (Wf : γ1 → γ2 → γ3 → γ4 → γ5 → World → Prop) {L1 : Slots}
    (h1 : ∀ K : Act → World → Prop, (∀ (g1 : γ1) (g2 : γ2) (g3 : γ3) (g4 : γ4) (g5 : γ5) {L'' : Slots} {w'' : World}, Wf g1 g2 g3 g4 g5 w'' → (hs : Sub (cat (Lf g1 g2 g3 g4 g5) L1) L'' := by (repeat first | exact True.intro | refine And.intro rfl ?_); first | done | fail) → (hu : Upd S w w'' := by exact u_d) → QK K N ds L'' w'') → WC rd P (QS rd P (Exit.then K (QS rd P Q k)) []) N ds x L w)
    (h2 : ∀ (g1 : γ1) (g2 : γ2) (g3 : γ3) (g4 : γ4) (g5 : γ5) (w' : World), Wf g1 g2 g3 g4 g5 w' → Upd S w w' → w.heap.size ≤ w'.heap.size → WC rd P (QS rd P Q k) N ds y (cat (Lf g1 g2 g3 g4 g5) L1) w') (hL : kpF ks L = some L1 := by rfl) : WC rd P (QS rd P Q k) N ds (.seq x y) L w :=
  have _ := hL
  x_k1 (γ := γ1 × γ2 × γ3 × γ4 × γ5) S ks (fun q => Lf q.1 q.2.1 q.2.2.1 q.2.2.2.1 q.2.2.2.2) (fun q => Wf q.1 q.2.1 q.2.2.1 q.2.2.2.1 q.2.2.2.2) (fun K hK => h1 K fun g1 g2 g3 g4 g5 _ _ h hs hu => hK (g1, g2, g3, g4, g5) h hs hu) (fun q w' h3 h4 h5 => h2 q.1 q.2.1 q.2.2.1 q.2.2.2.1 q.2.2.2.2 w' h3 h4 h5) hL
theorem i_wl (h : WL rd P ops Q N ds rest L w) : WL rd P ops Q N ds rest L w := h
theorem i_wc (h : WC rd P Q N ds c L w) : WC rd P Q N ds c L w := h
theorem i_qk {K : Act → World → Prop} (h : QK K N ds L w) : QK K N ds L w := h
theorem i_sc {S : Nat → Prop} (h : SC rd P ops Q N ds w1 S r L w) : SC rd P ops Q N ds w1 S r L w := h
theorem i_nl (h : WL rd P ops Q N ds [] L w) : WL rd P ops Q N ds [] L w := h
theorem i_ld {t : TypeId} {x : Operand} (h : WL rd P ops Q N ds (⟨some d, .load t x, ty, pos, aft, g⟩ :: rest) L w) : WL rd P ops Q N ds (⟨some d, .load t x, ty, pos, aft, g⟩ :: rest) L w := h
theorem i_bi {op : BinOp} {xt yt : TypeId} {x y : Operand} (h : WL rd P ops Q N ds (⟨some d, .binOp op xt x y yt, ty, pos, aft, g⟩ :: rest) L w) : WL rd P ops Q N ds (⟨some d, .binOp op xt x y yt, ty, pos, aft, g⟩ :: rest) L w := h
theorem i_un {op : UnOp} {xt : TypeId} {x : Operand} (h : WL rd P ops Q N ds (⟨some d, .unOp op xt x, ty, pos, aft, g⟩ :: rest) L w) : WL rd P ops Q N ds (⟨some d, .unOp op xt x, ty, pos, aft, g⟩ :: rest) L w := h
structure Bx (B : Prop) : Prop where
  out : B
theorem st1 {A B : Prop} (k : B) (h : Bx B → A := by
  intro hgo
  first
    | (with_reducible apply i_wl
       first
       | (with_reducible apply i_nl
          first
          | refine s_next (Upd.refl _ _) ?_
          | refine s_next (Upd.mono (by assumption) (by intro i h; first | exact False.elim h | (simp only [SW]; omega))) ?_
          | refine t_nil' ?_)
       | (with_reducible apply i_un; refine g_not rfl (by with_reducible rfl) rfl rfl ?_)
       | refine g_p rfl rfl rfl ?_
       | refine t_skip rfl rfl rfl ?_
       | refine t_skip0 rfl rfl ?_
       | (with_reducible apply i_ld
          first
          | refine g_ld rfl rfl rfl rfl (by assumption) (by (repeat first | exact Unt.refl _ _ | refine Unt.step ?_ (by assumption) (by first | exact fun h => h | assumption | (intro h; omega))); first | done | fail) (by rfl) ?_
          | refine g_ldN rfl rfl rfl rfl (by assumption) (by (repeat first | exact Unt.refl _ _ | refine Unt.step ?_ (by assumption) (by first | exact fun h => h | assumption | (intro h; omega))); first | done | fail) (by rfl) ?_
          | refine g_la rfl rfl rfl rfl (by assumption) (by (repeat first | exact Unt.refl _ _ | refine Unt.step ?_ (by assumption) (by first | exact fun h => h | assumption | (intro h; omega))); first | done | fail) (by rfl) ?_
          | refine g_lf rfl rfl rfl rfl (by assumption) (by (repeat first | exact Unt.refl _ _ | refine Unt.step ?_ (by assumption) (by first | exact fun h => h | assumption | (intro h; omega))); first | done | fail) (by rfl) ?_
          | refine g_laN rfl rfl rfl rfl (by assumption) (by (repeat first | exact Unt.refl _ _ | refine Unt.step ?_ (by assumption) (by first | exact fun h => h | assumption | (intro h; omega))); first | done | fail) (by rfl) ?_
          | refine g_lfN rfl rfl rfl rfl (by assumption) (by (repeat first | exact Unt.refl _ _ | refine Unt.step ?_ (by assumption) (by first | exact fun h => h | assumption | (intro h; omega))); first | done | fail) (by rfl) ?_)
       | refine g_bd rfl rfl rfl rfl (by intro w; kernel_rfl) ?_
       | (with_reducible apply i_bi; refine t_ari rfl rfl rfl rfl rfl (by omega) ?_))
    | (with_reducible apply i_qk
       first
       | with_reducible apply n_sq
       | with_reducible apply n_bl
       | with_reducible apply r_sq
       | with_reducible apply r_bl
       | with_reducible apply x_sq
       | with_reducible apply x_hit
       | refine x_mis rfl ?_
       | with_reducible apply b_e
       | with_reducible apply l_n
       | with_reducible apply l_r
       | with_reducible apply l_x)
    | (with_reducible apply i_wc
       first
       | with_reducible apply q_seq
       | with_reducible apply c_region
       | with_reducible apply c_skip
       | with_reducible apply q_blk
       | refine c_cond_t rfl ?_
       | refine c_cond_f rfl ?_
       | with_reducible apply c_ret
       | with_reducible apply c_exit)
    | (with_reducible apply i_sc
       first
       | refine y_nop rfl (by with_reducible rfl) rfl rfl ?_
       | refine y_p rfl rfl rfl ?_
       | refine y_skip rfl rfl rfl ?_
       | refine y_ld rfl rfl rfl rfl (by assumption) (by (repeat first | exact Unt.refl _ _ | refine Unt.step ?_ (by assumption) (by first | exact fun h => h | assumption | (intro h; omega))); first | done | fail) (by rfl) (by first | exact fun h => h | assumption | (intro h; omega)) ?_
       | refine y_ldN rfl rfl rfl rfl (by assumption) (by (repeat first | exact Unt.refl _ _ | refine Unt.step ?_ (by assumption) (by first | exact fun h => h | assumption | (intro h; omega))); first | done | fail) (by rfl) (by first | exact fun h => h | assumption | (intro h; omega)) ?_
       | refine y_la rfl rfl rfl rfl (by assumption) (by (repeat first | exact Unt.refl _ _ | refine Unt.step ?_ (by assumption) (by first | exact fun h => h | assumption | (intro h; omega))); first | done | fail) (by rfl) (by first | exact fun h => h | assumption | (intro h; omega)) ?_
       | refine y_lf rfl rfl rfl rfl (by assumption) (by (repeat first | exact Unt.refl _ _ | refine Unt.step ?_ (by assumption) (by first | exact fun h => h | assumption | (intro h; omega))); first | done | fail) (by rfl) (by first | exact fun h => h | assumption | (intro h; omega)) ?_
       | refine y_laN rfl rfl rfl rfl (by assumption) (by (repeat first | exact Unt.refl _ _ | refine Unt.step ?_ (by assumption) (by first | exact fun h => h | assumption | (intro h; omega))); first | done | fail) (by rfl) (by first | exact fun h => h | assumption | (intro h; omega)) ?_
       | refine y_lfN rfl rfl rfl rfl (by assumption) (by (repeat first | exact Unt.refl _ _ | refine Unt.step ?_ (by assumption) (by first | exact fun h => h | assumption | (intro h; omega))); first | done | fail) (by rfl) (by first | exact fun h => h | assumption | (intro h; omega)) ?_
       | refine y_bd rfl rfl rfl rfl (by intro w; kernel_rfl) ?_
       | refine y_ari rfl rfl rfl rfl rfl (by omega) ?_
       | refine s_nil ?_
       | refine s_do ?_)
    | fail
  exact hgo.out) : A := h ⟨k⟩
theorem go {A B : Prop} (k : B) (h : Bx B → A := by
  intro hgo
  repeat refine st1 ?_
  exact hgo.out) : A := h ⟨k⟩
end steps
end Go.Proofs.YtagmkfbbhfaceaaGreatDoor
