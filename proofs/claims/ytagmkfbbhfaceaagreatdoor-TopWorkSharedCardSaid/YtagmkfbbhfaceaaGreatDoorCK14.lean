/-
  Part 14 of the proof: contracts and plain laws. Conditions: none.
-/
import Derived.RangeFuncNested
import Derived.RangeFuncBound
import Derived.RangeFuncLeaves
import Derived.Lib.AtoiTie
import Derived.Lib.AtoiOr
import Derived.Lib.ItoaMem
import Derived.Lib.SplitLaws
import Derived.Lib.IndexBytes
import Derived.Test.YtagmkfbbhfaceaaGreatDoorCK13
namespace Go.Proofs.YtagmkfbbhfaceaaGreatDoor
open Go Go.RowKit Go.Proofs.Tryz
set_option maxRecDepth 10000
/-! ### a season: the map of tons, and sums -/
section
variable {α β : Type} [DecidableEq α]
def upR (a : α) (v : β) : List (α × β) → List (α × β)
  | [] => [(a, v)]
  | p :: m => if a = p.1 then (a, v) :: m else p :: upR a v m
def gtR (a : α) : List (α × β) → Option β
  | [] => none
  | p :: m => if a = p.1 then some p.2 else gtR a m
theorem fG_shift (a : α) : ∀ (m : List (α × β)) (i : Nat), fG m a (i + 1) = (fG m a i).map fun p => (p.1 + 1, p.2)
  | [], _ => rfl
  | p :: m, i => by
    unfold fG
    split
    · rfl
    · exact fG_shift a m (i + 1)
theorem gtG_eq (a : α) : ∀ (m : List (α × β)), gtG m a = gtR a m
  | [] => rfl
  | p :: m => by
    unfold gtG fG gtR
    split
    · rfl
    · rw [fG_shift, ← gtG_eq a m]
      unfold gtG
      cases fG m a 0 <;> rfl
theorem upG_eq (a : α) (v : β) : ∀ (m : List (α × β)), upG m a v = upR a v m
  | [] => rfl
  | p :: m => by
    have ih := upG_eq a v m
    unfold upG fG upR
    by_cases q : a = p.1
    · simp [q]
    · simp only [if_neg q]
      rw [fG_shift, ← ih]
      unfold upG
      cases fG m a 0 <;> rfl
theorem gtR_upR (a : α) (v : β) (b : α) : ∀ (m : List (α × β)), gtR b (upR a v m) = if b = a then some v else gtR b m
  | [] => by
    unfold upR gtR
    split <;> rfl
  | p :: m => by
    unfold upR
    split
    · rename_i e
      unfold gtR
      by_cases q : b = a
      · simp [q]
      · rw [if_neg q, if_neg q, if_neg (by rw [← e]; exact q)]
    · rename_i e
      rw [gtR, gtR_upR a v b m]
      by_cases q : b = a
      · subst q; rw [if_neg e, if_pos rfl, if_pos rfl]
      · rw [if_neg q, if_neg q, ← gtR]
end
def gI (m : List (Int × Int)) (b : Int) : Int := (gtG m b).getD 0
theorem gI_up (m : List (Int × Int)) (a v b : Int) : gI (upG m a v) b = if b = a then v else gI m b := by
  unfold gI
  rw [gtG_eq, gtG_eq, upG_eq, gtR_upR]
  split <;> rfl
section
variable {rd : Option Nat} {P : Program} {ops : Array Oper} {Q : Exit → Act → World → Prop} {N : Nat} {ds : List Deferred} {rest : List Oper} {L : Slots} {w : World}
variable {d : Nat} {ty : TypeId} {pos : String} {aft : Array Edge} {g : Option (Nat × Bool)}
end
theorem tonP_le {b : Int} : ∀ {c : List Crg}, (∀ x ∈ c, 0 ≤ x.t) → 0 ≤ tonP b c ∧ tonP b c ≤ tonP 0 c
  | [], _ => by simp [tonP]
  | x :: c, h => by
    have h1 := tonP_le (b := b) (c := c) (fun y hy => h y (List.mem_cons_of_mem _ hy))
    have h2 := h x List.mem_cons_self
    simp only [tonP, true_or, if_true]
    split <;> omega
theorem tonP_next {b : Int} {c : List Crg} {k : Nat} (hk : k < c.length) : tonP b (c.take (k + 1)) = tonP b (c.take k) + (if b = 0 ∨ (nth c k).b = b then (nth c k).t else 0) := by
  rw [take_nth hk, tonP_snoc]
def allR (b : Int) (rs : List HR) : Int := allT b (rs.map HR.hul)
theorem allT_range {b : Int} : ∀ {l : List Hul}, (∀ h ∈ l, (∀ x ∈ h.c, 0 ≤ x.t) ∧ tonP 0 h.c ≤ 100000) → 0 ≤ allT b l ∧ allT b l ≤ 100000 * (l.length : Int)
  | [], _ => by simp [allT]
  | h :: l, hh => by
    have h1 := allT_range (b := b) (l := l) (fun y hy => hh y (List.mem_cons_of_mem _ hy))
    have h2 := hh h List.mem_cons_self
    have h3 := tonP_le (b := b) h2.1
    simp only [allT, List.length_cons]; omega
/-- The tons in a map. -/
def MapT (m : List (Int × Int)) (F : Int → Int) : Prop := ∀ b, b ≠ 0 → gI m b = F b
theorem MapT.up {m : List (Int × Int)} {F G : Int → Int} {a v : Int} (h : MapT m F) (ha : v = G a) (hG : ∀ b, b ≠ 0 → b ≠ a → G b = F b) : MapT (upG m a v) G := fun b hb => by
  rw [gI_up]
  by_cases q : b = a
  · rw [if_pos q, q, ha]
  · rw [if_neg q, h b hb, hG b hb q]
theorem MapT.cg {m : List (Int × Int)} {A : Int → Int} {c : List Crg} {k : Nat} (h : MapT m (fun b => A b + tonP b (c.take k))) (hk : k < c.length) (hb : (nth c k).b ≠ 0) : MapT (upG m (nth c k).b (gI m (nth c k).b + (nth c k).t)) (fun b => A b + tonP b (c.take (k + 1))) := by
  refine h.up ?_ (fun b hb0 hn => ?_)
  · show _ = A _ + _
    rw [h _ hb, tonP_next hk, if_pos (.inr rfl)]
    show A _ + _ + _ = _
    omega
  · show A _ + _ = A _ + _
    rw [tonP_next hk, if_neg (fun q => q.elim hb0 (fun q => hn q.symm))]; omega
theorem CgOk.pos {T : Int} {c : List Crg} (h : CgOk T c) : ∀ x ∈ c, 0 ≤ x.t := fun x hx => by have := h.2 x hx; omega
theorem CgOk.at_ {T : Int} {c : List Crg} {k : Nat} (h : CgOk T c) (hk : k < c.length) : (1 ≤ (nth c k).b ∧ (nth c k).b ≤ 9999) ∧ (1 ≤ (nth c k).t ∧ (nth c k).t ≤ T) := h.2 _ (nth_mem hk)
theorem CgOk.sum {T : Int} {c : List Crg} (h : CgOk T c) (hT : 0 ≤ T ∧ T ≤ 1000000000) (b : Int) : 0 ≤ tonP b c ∧ tonP b c ≤ 10000000000000 := by
  suffices ∀ l : List Crg, (∀ x ∈ l, 0 ≤ x.t ∧ x.t ≤ 1000000000) → 0 ≤ tonP b l ∧ tonP b l ≤ 1000000000 * (l.length : Int) by
    have h1 := this c (fun x hx => by have := h.2 x hx; omega)
    have h2 := h.len
    omega
  intro l
  induction l with
  | nil => intro _; simp [tonP]
  | cons x l ih =>
    intro hl
    have h1 := ih (fun y hy => hl y (List.mem_cons_of_mem _ hy))
    have h2 := hl x List.mem_cons_self
    simp only [tonP, List.length_cons]
    split <;> omega
theorem SeaOk.hulls {T : Int} {V : SG} (h : SeaOk T V.st) (b : Int) (i : Nat) : 0 ≤ allR b (V.rs.take i) ∧ allR b (V.rs.take i) ≤ 100000 * (V.rs.length : Int) := by
  have h1 : ∀ y ∈ (V.rs.take i).map HR.hul, (∀ x ∈ y.c, 0 ≤ x.t) ∧ tonP 0 y.c ≤ 100000 := fun y hy => by
    obtain ⟨r, hr, rfl⟩ := List.mem_map.1 hy
    have h2 := h.hul (HR.hul r) (List.mem_map.2 ⟨r, List.mem_of_mem_take hr, rfl⟩)
    exact ⟨h2.2.2.1.pos, h2.2.2.2⟩
  have h3 := allT_range (b := b) h1
  unfold allR
  rw [List.length_map, List.length_take] at h3
  omega
/-! ### a season: replays, one by one and all together -/
theorem seaOk_zero : SeaOk 0 zSea := ⟨asc_nil, fun h hh => (by cases hh), CgOk.nil _, CgOk.nil _, by decide, by decide, by decide⟩
/-- Replay, the state's parts one by one. -/
theorem Rep_c (l : List Ent) (al : Option Addr) (bl ol cl : Nat) (V : SG) (T : Int) (w0 : World) (hl : Sl encEnt 6 w0 al bl ol l) (hll : l.length ≤ 1000000000) (hpos : 0 < w0.heap.size) (hI : SIn w0 V 0 0 0) (hok : SeaOk T V.st) (hT : T ≤ 500000000) :
    CallsV Tryz.prog 19 [.agg #[.int .i64 V.m, .slice V.ah V.rs.length V.ch, .slice V.al V.ld.length V.cl, .slice V.au V.un.length V.cu, .int .i64 V.wk], .slice al l.length cl] w0 fun v w' => (∃ V9 : SG, v = .tuple #[.agg #[.int .i64 V9.m, .slice V9.ah V9.rs.length V9.ch, .slice V9.al V9.ld.length V9.cl, .slice V9.au V9.un.length V9.cu, .int .i64 V9.wk], .int .i64 ((repP V.st l).2.1 : Int), .int .i64 (repP V.st l).1] ∧ SIn w' V9 0 0 0 ∧ V9.st = (repP V.st l).2.2 ∧ SeaF w0.heap.size V9) ∧ Ext w0 w' :=
  Replay_c l al bl ol cl V 0 0 0 T w0 hl hll hpos hI hok hT
theorem Rep0_c (l : List Ent) (al : Option Addr) (bl ol cl : Nat) (w0 : World) (hl : Sl encEnt 6 w0 al bl ol l) (hll : l.length ≤ 1000000000) (hpos : 0 < w0.heap.size) :
    CallsV Tryz.prog 19 [.agg #[.int .i64 0, .slice none 0 0, .slice none 0 0, .slice none 0 0, .int .i64 0], .slice al l.length cl] w0 fun v w' => (∃ V9 : SG, v = .tuple #[.agg #[.int .i64 V9.m, .slice V9.ah V9.rs.length V9.ch, .slice V9.al V9.ld.length V9.cl, .slice V9.au V9.un.length V9.cu, .int .i64 V9.wk], .int .i64 ((repP zSea l).2.1 : Int), .int .i64 (repP zSea l).1] ∧ SIn w' V9 0 0 0 ∧ V9.st = (repP zSea l).2.2 ∧ SeaF w0.heap.size V9) ∧ Ext w0 w' :=
  Rep_c l al bl ol cl SG0 0 w0 hl hll hpos (SIn.zero hpos) seaOk_zero (by decide)
/-- A list with one entry that lies in a block of its own. -/
theorem Sl.one {x : Ent} {w : World} {b : Nat} (h : Blk w b 41 [.int .i64 x.m, .int .i64 x.k, .int .i64 x.h, .int .i64 x.p, .int .i64 x.b, .int .i64 x.t]) : Sl encEnt 6 w (some ⟨b, 0, none⟩) b 0 [x] := Sl.ofBlk (enc := encEnt) (k := 6) (xs := [x]) (fun _ => rfl) h
theorem SeaOk.parts {T : Int} {V : SG} (h : SeaOk T V.st) : V.rs.length ≤ 999 ∧ V.ld.length ≤ 9999 ∧ V.un.length ≤ 9999 ∧ ∀ r ∈ V.rs, r.c.length ≤ 9999 := ⟨h.rlen, h.ld.len, h.un.len, fun r hr => (h.rhul r hr).2.2.1.len⟩
theorem Bal.at_ {V : SG} (h : Bal V.st) (b : Int) : allR b V.rs + tonP b V.un = tonP b V.ld := h b
end Go.Proofs.YtagmkfbbhfaceaaGreatDoor
namespace Go.Proofs.YtagmkfbbhfaceaaGreatDoor
open Go Go.RowKit
set_option maxRecDepth 10000





end Go.Proofs.YtagmkfbbhfaceaaGreatDoor
namespace Go.Proofs.YtagmkfbbhfaceaaGreatDoor
open Go Go.RowKit
set_option maxRecDepth 10000
end Go.Proofs.YtagmkfbbhfaceaaGreatDoor
namespace Go.Proofs.YtagmkfbbhfaceaaGreatDoor
open Go Go.RowKit
set_option maxRecDepth 10000
/-! ### a log's closed form: chunks of 240 digits, blocks out of them, groups of four blocks and their parity -/
/-! groups -/
/-! digits of bytes -/
/-! the bytes of all chunks -/
/-! ### the reference's Data and Write -/
/-! the reference's Write: groups of up to four -/
/-! the reference's Bits -/
end Go.Proofs.YtagmkfbbhfaceaaGreatDoor
namespace Go.Proofs.YtagmkfbbhfaceaaGreatDoor
open Go Go.RowKit
set_option maxRecDepth 10000

instance : DecidableEq Ent := fun a b => if h : a.m = b.m ∧ a.k = b.k ∧ a.h = b.h ∧ a.p = b.p ∧ a.b = b.b ∧ a.t = b.t then isTrue (by cases a; cases b; simp at h; simp [h]) else isFalse (fun e => h (by rw [e]; exact ⟨rfl, rfl, rfl, rfl, rfl, rfl⟩))



end Go.Proofs.YtagmkfbbhfaceaaGreatDoor
namespace Go.Proofs.YtagmkfbbhfaceaaGreatDoor
open Go Go.RowKit

theorem Ext.grownBy {w w' : World} (h : Ext w w') : w.grownBy w' none := ⟨h.os, h.tape, h.output, h.size, fun k hk _ => h.block k hk id⟩
/-- What may turn is cells. -/
def CellsIn (S : Nat → Prop) (w : World) : Prop := ∀ k, k < w.heap.size → S k → ∃ cur t f, w.heap[k]? = some (.cells cur t f)

theorem CellsIn.none (w : World) : CellsIn (fun _ => False) w := fun _ _ h => h.elim
theorem CellsIn.or {S T : Nat → Prop} {w : World} (h : CellsIn S w) (k : CellsIn T w) : CellsIn (fun i => S i ∨ T i) w := fun i hi h' => h'.elim (h i hi) (k i hi)

/-! ### The marks of ended loops among the deferred calls -/
def mark (D : Nat) : Deferred := { target := .collected D, args := #[] }

/-- The deferred calls are the marks of loops in whose rounds nothing was deferred. -/
def Marks (base : Nat) : List Deferred → World → Prop
  | [], _ => True
  | d :: ds, w => (∃ D, d = mark D ∧ base ≤ D ∧ w.heap[D]? = some (.deferred (some [])) ∧ (∀ d' ∈ ds, ∀ D', d' = mark D' → D' < D)) ∧ Marks base ds w

theorem Marks.keep {base : Nat} {S : Nat → Prop} : ∀ {ds : List Deferred} {w w' : World}, Marks base ds w → Upd S w w' → CellsIn S w → Marks base ds w'
  | [], _, _, _, _, _ => trivial
  | d :: ds, w, w', h, u, hc => by
    obtain ⟨⟨D, h1, h2, h3, h4⟩, h5⟩ := h
    refine ⟨⟨D, h1, h2, ?_, h4⟩, h5.keep u hc⟩
    have hlt := lt_of_block h3
    refine (u.block D hlt (fun hs => ?_)).trans h3
    obtain ⟨c, t, f, hq⟩ := hc D hlt hs
    rw [h3] at hq
    cases hq

theorem Marks.lt {base : Nat} : ∀ {ds : List Deferred} {w : World}, Marks base ds w → ∀ d ∈ ds, ∀ D, d = mark D → D < w.heap.size
  | [], _, _, d, hd, _, _ => by cases hd
  | d :: ds, w, h, d', hd, D', e => by
    obtain ⟨⟨D, h1, h2, h3, h4⟩, h5⟩ := h
    rcases List.mem_cons.1 hd with rfl | hd
    · rw [h1] at e
      injection e with e
      injection e with e
      subst e
      exact lt_of_block h3
    · exact h5.lt d' hd D' e

theorem Marks.push {base : Nat} {ds : List Deferred} {w : World} {D : Nat} (h : Marks base ds w) (hb : base ≤ D) (hD : w.heap[D]? = some (.deferred (some []))) (hn : ∀ d ∈ ds, ∀ D', d = mark D' → D' < D) : Marks base (mark D :: ds) w :=
  ⟨⟨D, rfl, hb, hD, hn⟩, h⟩

section steps
variable {rd : Option Nat} {P : Program} {ops : Array Oper} {Q : Exit → Act → World → Prop} {N : Nat} {ds : List Deferred} {rest : List Oper} {L : Slots} {w : World}
variable {d : Nat} {ty : TypeId} {pos : String} {aft : Array Edge} {g : Option (Nat × Bool)} {c : Code}

def tmpRes (L : Slots) : ResultVar → Option Value
  | .tmp t => look t L
  | .cell _ _ => none

theorem tmpRes.run {r : ResultVar} {v : Value} (h : tmpRes L r = some v) {a : Act} (ha : Kn N ds L a) (w : World) : (resOf a.tmps r).run P w = .ok v w := by
  cases r with
  | tmp t => simp only [resOf, Sem.run_pure]; rw [ha.get _ _ h]
  | cell s t => cases h

end steps
end Go.Proofs.YtagmkfbbhfaceaaGreatDoor
namespace Go.Proofs.YtagmkfbbhfaceaaGreatDoor
open Go Go.RowKit Go.Proofs.Tryz
set_option maxRecDepth 10000
/-! ### bytes in blocks -/
def mk32 (l : List UInt8) : Bk := if h : l.length = 32 then ⟨l, h⟩ else zeroBk
theorem mk32_l {l : List UInt8} (h : l.length = 32) : (mk32 l).l = l := by unfold mk32; rw [dif_pos h]
def ckP (b : List UInt8) (k : Nat) : List UInt8 := (b.drop (32 * k)).take 32
/-- the blocks of bytes -/
def blksP (b : List UInt8) (m : Nat) : List Bk := (List.range m).map fun k => mk32 (ckP b k)
/-- what open returns -/
def opE (b : List UInt8) : Int := if b.length % 32 ≠ 0 ∨ b.length / 32 < 2 ∨ b.length / 32 % 5 = 1 then 4 else if 1300 < b.length / 32 then 5 else 0
def opP (b : List UInt8) : List Bk := if opE b = 0 then blksP b (b.length / 32) else []
theorem mk32_bytes (v : Bk) : mk32 v.l = v := Bk.ext' (mk32_l v.h)
theorem ckP_bytes : ∀ (v : List Bk) (i : Nat) (h : i < v.length), ckP (bytesP v) i = v[i].l
  | x :: v, 0, _ => by
    have e : bytesP (x :: v) = x.l ++ bytesP v := rfl
    have hx := x.h
    unfold ckP
    rw [e, Nat.mul_zero, List.drop_zero, List.take_append_of_le_length (by omega), List.take_of_length_le (by omega)]; rfl
  | x :: v, i + 1, h => by
    have e : bytesP (x :: v) = x.l ++ bytesP v := rfl
    have hx := x.h
    have ih := ckP_bytes v i (by simpa using h)
    unfold ckP at ih ⊢
    rw [e, List.drop_append, List.drop_of_length_le (by omega), List.nil_append, hx, show 32 * (i + 1) - 32 = 32 * i by omega]
    exact ih
theorem blksP_of (v : List Bk) : blksP (bytesP v) v.length = v := by
  refine List.ext_getElem? fun i => ?_
  unfold blksP
  rw [List.getElem?_map]
  rcases Nat.lt_or_ge i v.length with h | h
  · rw [List.getElem?_range h, List.getElem?_eq_getElem h]
    show some (mk32 (ckP (bytesP v) i)) = some v[i]
    rw [ckP_bytes v i h, mk32_bytes]
  · rw [List.getElem?_eq_none (by rw [List.length_range]; exact h), List.getElem?_eq_none h]; rfl
end Go.Proofs.YtagmkfbbhfaceaaGreatDoor
namespace Go.Proofs.YtagmkfbbhfaceaaGreatDoor
open Go Go.RowKit

/-- Of what lay in w only the marks' blocks may read otherwise. -/
abbrev OffMarks (ds : List Deferred) (w w' : World) : Prop := Upd (fun i => ∃ d ∈ ds, d = mark i) w w'
theorem Marks.notCells {base : Nat} {b : Nat} {c : Array Value} {t : TypeId} {f : Nat × Nat} : ∀ {ds : List Deferred} {w : World}, Marks base ds w → w.heap[b]? = some (.cells c t f) → ¬ ∃ d ∈ ds, d = mark b
  | [], _, _, _, h => by obtain ⟨_, h, _⟩ := h; cases h
  | d :: ds, w, h, hb, hq => by
    obtain ⟨⟨D, h1, h2, h3, h4⟩, h5⟩ := h
    obtain ⟨d', hd, e⟩ := hq
    rcases List.mem_cons.1 hd with rfl | hd
    · rw [h1] at e
      injection e with e
      injection e with e
      subst e
      rw [h3] at hb
      cases hb
    · exact h5.notCells hb ⟨d', hd, e⟩
theorem Marks.notBlk {base : Nat} {b : Nat} {t : TypeId} {cs : List Value} {ds : List Deferred} {w : World} (h : Marks base ds w) (hb : Blk w b t cs) : ¬ ∃ d ∈ ds, d = mark b := h.notCells hb
/-- A result, read behind the marks. -/
def ResM (P : Program) (ds : List Deferred) (w : World) (L : Slots) (r : ResultVar) (v : Value) : Prop := ∀ w', OffMarks ds w w' → Res P w' L r v
theorem ResM.tmp {P : Program} {ds : List Deferred} {w : World} {L : Slots} {t : Nat} {v : Value} (h : look t L = some v) : ResM P ds w L (.tmp t) v := fun _ _ => h
theorem ResM.cell {P : Program} {ds : List Deferred} {w : World} {L : Slots} {s t b off base : Nat} {t' : TypeId} {cs : List Value} {v : Value} (hm : Marks base ds w) (hl : look s L = some (.pointer (some ⟨b, off, none⟩))) (ha : ∀ w, (isAgg t).run P w = .ok false w) (hb : Blk w b t' cs) (hv : cs[off]? = some v) : ResM P ds w L (.cell s t) v :=
  fun _w' u => ⟨b, off, hl, run_loadVar1 ha ((hb.keep u (hm.notBlk hb)).get hv)⟩

section steps
variable {P : Program} {N : Nat} {ds : List Deferred} {L : Slots} {w : World}
end steps
end Go.Proofs.YtagmkfbbhfaceaaGreatDoor
namespace Go.Proofs.YtagmkfbbhfaceaaGreatDoor
open Go Go.RowKit Go.Proofs.Tryz
set_option maxRecDepth 10000
end Go.Proofs.YtagmkfbbhfaceaaGreatDoor
namespace Go.Proofs.YtagmkfbbhfaceaaGreatDoor
open Go Go.RowKit Go.Proofs.Tryz
set_option maxRecDepth 10000
/-! ### damaged blocks are restored -/
def gF (k : Nat) : Nat := k - k % 5
def gL (n k : Nat) : Nat := min (gF k + 4) (n - 1)
def badB (v : List Bk) (k : Nat) : Bool := !decide ((nth v k).l.drop 30 = chkP (nth v k).l k)
def badP (v : List Bk) : List Nat := (List.range v.length).filter (badB v)
def nats (l : List Nat) : List Int := l.map fun k : Nat => (k : Int)
def mixG (v : List Bk) (k f : Nat) : Nat → Bk
  | 0 => zeroBk
  | n + 1 => if f + n = k then mixG v k f n else (mixG v k f n).mix (nth v (f + n))
def rst (v : List Bk) (k : Nat) : Bk := (mixG v k (gF k) (gL v.length k + 1 - gF k)).shutB k
def fixG (p : Int) (v : List Bk) : List Nat → Option (List Bk)
  | [] => some v
  | k :: r => if ((gF k : Nat) : Int) ≤ p then none else fixG (k : Int) (v.set k (rst v k)) r
/-- what Repair returns -/
def repR (b : List UInt8) : List UInt8 × List Int × Int :=
  if opE b ≠ 0 then ([], [], opE b) else match fixG (-1) (opP b) (badP (opP b)) with
    | none => ([], [], 121)
    | some v => (bytesP v, nats (badP (opP b)), 0)
theorem fix_none {p : Int} {v : List Bk} {k : Nat} {r : List Nat} (h : ((gF k : Nat) : Int) ≤ p) : fixG p v (k :: r) = none := by
  show (if _ then _ else _) = _
  rw [if_pos h]
theorem fix_step {p : Int} {v : List Bk} {k : Nat} {r : List Nat} (h : ¬ ((gF k : Nat) : Int) ≤ p) : fixG p v (k :: r) = fixG (k : Int) (v.set k (rst v k)) r := by
  show (if _ then _ else _) = _
  rw [if_neg h]
theorem gF_le (k : Nat) : gF k ≤ k := Nat.sub_le _ _
end Go.Proofs.YtagmkfbbhfaceaaGreatDoor
namespace Go.Proofs.YtagmkfbbhfaceaaGreatDoor
open Go Go.RowKit
set_option maxRecDepth 10000
/-! ### a log's groups: what is damaged can be restored -/
/-- byte j of blocks f, f+1, .., taken together -/
def bxA (v : List Bk) (f j : Nat) : Nat → UInt8
  | 0 => 0
  | n + 1 => bxA v f j n ^^^ nth (nth v (f + n)).l j
/-- blocks in groups: each is sound, and each group's bytes cancel out -/
structure GoodV (v : List Bk) : Prop where
  two : 2 ≤ v.length
  mod : v.length % 5 ≠ 1
  ok : ∀ k, k < v.length → (nth v k).l.drop 30 = chkP (nth v k).l k
  par : ∀ f, f % 5 = 0 → f < v.length → ∀ j, j < 30 → bxA v f j (min 5 (v.length - f)) = 0
/-! ### damage is seen: a sound block with one byte changed is not sound -/
def Bk.put (b : Bk) (j : Nat) (x : UInt8) : Bk := ⟨b.l.set j x, by rw [List.length_set]; exact b.h⟩
/-! ### damage, group by group -/
structure Dmg (v U : List Bk) (m : Nat) (ks : List Nat) : Prop where
  len : U.length = v.length
  lt : ∀ k ∈ ks, k < m ∧ k < v.length ∧ badB U k = true
  ok : ∀ k, k < v.length → k ∉ ks → nth U k = nth v k
  pw : ks.Pairwise (fun a b => a < gF b)
theorem Dmg.nil (v : List Bk) : Dmg v v 0 [] := ⟨rfl, fun k h => absurd h (by simp), fun _ _ _ => rfl, List.Pairwise.nil⟩
theorem Dmg.mono {v U : List Bk} {m m' : Nat} {ks : List Nat} (h : Dmg v U m ks) (hm : m ≤ m') : Dmg v U m' ks := ⟨h.len, fun k hk => ⟨by have := (h.lt k hk).1; omega, (h.lt k hk).2⟩, h.ok, h.pw⟩
theorem badB_congr {u v : List Bk} {k : Nat} (h : nth u k = nth v k) : badB u k = badB v k := by unfold badB; rw [h]
theorem Dmg.same {v U : List Bk} {m k : Nat} {ks : List Nat} (h : Dmg v U m ks) (hm : m ≤ k) (hk : k < v.length) : nth U k = nth v k := h.ok k hk (fun hq => by have := (h.lt k hq).1; omega)
theorem badB_set {U : List Bk} {k : Nat} {c : Bk} (hk : k < U.length) (h : ¬ c.l.drop 30 = chkP c.l k) : badB (U.set k c) k = true := by
  unfold badB
  rw [nth_setE hk, decide_eq_false h]; rfl
theorem Dmg.step {v U : List Bk} {m m' k : Nat} {ks : List Nat} {c : Bk} (h : Dmg v U m ks) (h5 : m % 5 = 0) (h1 : m ≤ k) (h2 : k < m + 5) (hm : k < m') (hk : k < v.length) (hc : ¬ c.l.drop 30 = chkP c.l k) : Dmg v (U.set k c) m' (ks ++ [k]) := by
  have hl := h.len
  refine ⟨by rw [List.length_set]; exact hl, fun q hq => ?_, fun q hq hn => ?_, ?_⟩
  · rcases List.mem_append.1 hq with hq | hq
    · have h9 := h.lt q hq
      exact ⟨by omega, h9.2.1, by rw [badB_congr (nth_setN (by omega) c)]; exact h9.2.2⟩
    · simp only [List.mem_singleton] at hq
      subst hq
      exact ⟨hm, hk, badB_set (by omega) hc⟩
  · have hne : q ≠ k := fun e => hn (by rw [e]; simp)
    rw [nth_setN hne]
    exact h.ok q hq (fun hm => hn (List.mem_append_left _ hm))
  · rw [List.pairwise_append]
    refine ⟨h.pw, List.pairwise_singleton _ _, fun a ha b hb => ?_⟩
    simp only [List.mem_singleton] at hb
    subst hb
    have := (h.lt a ha).1
    unfold gF; omega
theorem badP_sorted (v : List Bk) : (badP v).Pairwise (· < ·) := by
  unfold badP
  exact List.Pairwise.filter _ List.pairwise_lt_range
theorem badP_iff {v : List Bk} {k : Nat} : k ∈ badP v ↔ k < v.length ∧ badB v k = true := by
  unfold badP
  rw [List.mem_filter, List.mem_range]
theorem opE_bytes {v : List Bk} (hv : GoodV v) (h13 : v.length ≤ 1300) {U : List Bk} (hU : U.length = v.length) : opE (bytesP U) = 0 ∧ opP (bytesP U) = U := by
  have h2 := hv.two
  have h3 := hv.mod
  have e0 : opE (bytesP U) = 0 := by unfold opE; rw [bytesP_len, if_neg (by omega), if_neg (by omega)]
  refine ⟨e0, ?_⟩
  unfold opP
  rw [if_pos e0, bytesP_len, show 32 * U.length / 32 = U.length by omega, blksP_of]
theorem gF_mono {a b : Nat} (h : a ≤ b) : gF a ≤ gF b := by unfold gF; omega
theorem fix_two : ∀ (r : List Nat) (p : Int) (w : List Bk), r.Pairwise (· < ·) → ∀ a b, a ∈ r → b ∈ r → a < b → gF b ≤ a → fixG p w r = none
  | [], _, _, _, _, _, h, _, _, _ => absurd h (by simp)
  | k :: r, p, w, hp, a, b, ha, hb, hab, hg => by
    obtain ⟨hp1, hp2⟩ := List.pairwise_cons.1 hp
    by_cases q : ((gF k : Nat) : Int) ≤ p
    · exact fix_none q
    · rw [fix_step q]
      have hb' : b ∈ r := by
        rcases List.mem_cons.1 hb with e | e
        · exfalso
          rcases List.mem_cons.1 ha with e' | e'
          · omega
          · have := hp1 _ e'; omega
        · exact e
      rcases List.mem_cons.1 ha with e | e
      · subst e
        cases r with
        | nil => exact absurd hb' (by simp)
        | cons h r =>
          have hh : h ≤ b := by
            rcases List.mem_cons.1 hb' with e | e
            · omega
            · have := (List.pairwise_cons.1 hp2).1 _ e; omega
          have := gF_mono hh
          exact fix_none (by omega)
      · exact fix_two r k _ hp2 a b e hb' hab hg
theorem Dmg.none {v U : List Bk} {m k o : Nat} {ks : List Nat} {c : Bk} (h : Dmg v U m (k :: ks)) (hv : GoodV v) (h13 : v.length ≤ 1300) (ho : o < v.length) (hok : o ≠ k) (hog : gF o = gF k) (hc : ¬ c.l.drop 30 = chkP c.l o) : repR (bytesP (U.set o c)) = ([], [], 121) := by
  have hl : (U.set o c).length = v.length := by rw [List.length_set]; exact h.len
  obtain ⟨e0, e1⟩ := opE_bytes hv h13 hl
  have hk := h.lt k List.mem_cons_self
  have mk : k ∈ badP (U.set o c) := badP_iff.2 ⟨by omega, by rw [badB_congr (nth_setN (fun e => hok e.symm) c)]; exact hk.2.2⟩
  have mo : o ∈ badP (U.set o c) := badP_iff.2 ⟨by omega, badB_set (by rw [h.len]; exact ho) hc⟩
  have hn : fixG (-1) (U.set o c) (badP (U.set o c)) = Option.none := by
    rcases Nat.lt_or_gt_of_ne hok with q | q
    · exact fix_two _ _ _ (badP_sorted _) o k mo mk q (by rw [← hog]; exact gF_le o)
    · exact fix_two _ _ _ (badP_sorted _) k o mk mo q (by rw [hog]; exact gF_le k)
  unfold repR
  rw [if_neg (by omega), e1, hn]
theorem Dmg.first {v U : List Bk} {m k o : Nat} {ks : List Nat} (h : Dmg v U m (k :: ks)) (ho : o < v.length) (hok : o ≠ k) (hog : gF o = gF k) : nth U o = nth v o := by
  refine h.ok o ho fun hm => ?_
  rcases List.mem_cons.1 hm with e | e
  · exact hok e
  · have h9 := (List.pairwise_cons.1 h.pw).1 _ e
    have := gF_le k
    omega
/-! ### the law's own parts -/
end Go.Proofs.YtagmkfbbhfaceaaGreatDoor
namespace Go.Proofs.YtagmkfbbhfaceaaGreatDoor
open Go Go.RowKit
set_option maxRecDepth 10000
/-! ### a decoder's results -/
/-! ### a log is parsed -/
/-- what is left of a tape, and whether it broke off -/
structure Scr where
  r : List UInt8
  b : Bool
instance : Inhabited Scr := ⟨⟨[], false⟩⟩
end Go.Proofs.YtagmkfbbhfaceaaGreatDoor
namespace Go.Proofs.YtagmkfbbhfaceaaGreatDoor
open Go Go.RowKit Go.Proofs.Tryz
set_option maxRecDepth 10000
end Go.Proofs.YtagmkfbbhfaceaaGreatDoor
namespace Go.Proofs.YtagmkfbbhfaceaaGreatDoor
open Go Go.RowKit
set_option maxRecDepth 10000
/-! ### text in pieces -/
def pcs (c : UInt8) : List UInt8 → List (List UInt8)
  | [] => [[]]
  | x :: r => if x = c then [] :: pcs c r else (x :: (pcs c r).headD []) :: (pcs c r).tail
theorem pcs_cut (c : UInt8) : ∀ (n : Nat) (t : List UInt8), n < t.length → (∀ k, k < n → nth t k ≠ c) → nth t n = c → pcs c t = t.take n :: pcs c (t.drop (n + 1))
  | _, [], h, _, _ => absurd h (Nat.not_lt_zero _)
  | 0, x :: r, _, _, h => by
    have e : x = c := h
    conv => lhs; unfold pcs
    rw [if_pos e]; rfl
  | n + 1, x :: r, hl, hn, h => by
    have e : x ≠ c := hn 0 (Nat.succ_pos n)
    have ih := pcs_cut c n r (by simpa using hl) (fun k hk => hn (k + 1) (Nat.succ_lt_succ hk)) h
    conv => lhs; unfold pcs
    rw [if_neg e, ih]; rfl
theorem pcs_one (c : UInt8) : ∀ (t : List UInt8), (∀ k, k < t.length → nth t k ≠ c) → pcs c t = [t]
  | [], _ => rfl
  | x :: r, h => by
    have e : x ≠ c := h 0 (Nat.succ_pos _)
    have ih := pcs_one c r (fun k hk => h (k + 1) (Nat.succ_lt_succ hk))
    unfold pcs
    rw [if_neg e, ih]; rfl
/-- pieces of s that end ahead of f are done -/
structure PcsI (c : UInt8) (s : List UInt8) (ws : List (List UInt8)) (f i : Nat) : Prop where
  fi : f ≤ i
  eq : pcs c s = ws ++ pcs c (s.drop f)
  no : ∀ k, f ≤ k → k < i → nth s k ≠ c
theorem PcsI.nil (c : UInt8) (s : List UInt8) : PcsI c s [] 0 0 := ⟨Nat.le_refl _, rfl, fun _k _ h => absurd h (Nat.not_lt_zero _)⟩
theorem PcsI.next {c : UInt8} {s : List UInt8} {ws : List (List UInt8)} {f i : Nat} (h : PcsI c s ws f i) (hc : nth s i ≠ c) : PcsI c s ws f (i + 1) :=
  ⟨Nat.le_succ_of_le h.fi, h.eq, fun k h1 h2 => by
    by_cases e : k = i
    · rw [e]; exact hc
    · exact h.no k h1 (by omega)⟩
theorem PcsI.cut {c : UInt8} {s : List UInt8} {ws : List (List UInt8)} {f i : Nat} (h : PcsI c s ws f i) (hi : i < s.length) (hc : nth s i = c) : PcsI c s (ws ++ [(s.drop f).take (i - f)]) (i + 1) (i + 1) := by
  have hf := h.fi
  refine ⟨Nat.le_refl _, ?_, fun k h1 h2 => by omega⟩
  have e := pcs_cut c (i - f) (s.drop f) (by rw [List.length_drop]; omega) (fun k hk => by rw [nth_drop]; exact h.no (f + k) (by omega) (by omega)) (by rw [nth_drop, show f + (i - f) = i by omega]; exact hc)
  rw [h.eq, e, List.drop_drop, List.append_assoc, show f + (i - f + 1) = i + 1 by omega]; rfl
theorem PcsI.last {c : UInt8} {s : List UInt8} {ws : List (List UInt8)} {f : Nat} (h : PcsI c s ws f s.length) : pcs c s = ws ++ [s.drop f] := by
  have e := pcs_one c (s.drop f) (fun k hk => by
    rw [List.length_drop] at hk
    rw [nth_drop]; exact h.no (f + k) (by omega) (by omega))
  rw [h.eq, e]
def WdI (s : List UInt8) (ws : List (List UInt8)) (f i : Nat) : Prop := (i ≤ s.length ∧ PcsI 32 s ws f i) ∨ (i = s.length + 1 ∧ ws = pcs 32 s)
theorem WdI.at_ {s : List UInt8} {ws : List (List UInt8)} {f i : Nat} (h : WdI s ws f i) (hi : i ≤ s.length) : PcsI 32 s ws f i := by
  rcases h with h | h
  · exact h.2
  · omega
theorem WdI.cut {s : List UInt8} {ws : List (List UInt8)} {f i : Nat} (h : WdI s ws f i) (hi : i ≤ s.length) (hc : i = s.length ∨ nth s i = 32) : WdI s (ws ++ [(s.drop f).take (i - f)]) (i + 1) (i + 1) := by
  have h9 := h.at_ hi
  by_cases e : i = s.length
  · refine .inr ⟨by omega, ?_⟩
    subst e
    rw [h9.last, List.take_of_length_le (by rw [List.length_drop]; exact Nat.le_refl _)]
  · exact .inl ⟨by omega, h9.cut (by omega) (hc.resolve_left e)⟩
theorem WdI.next {s : List UInt8} {ws : List (List UInt8)} {f i : Nat} (h : WdI s ws f i) (hi : i ≤ s.length) (hc : ¬ (i = s.length ∨ nth s i = 32)) : WdI s ws f (i + 1) :=
  .inl ⟨by omega, (h.at_ hi).next (fun e => hc (.inr e))⟩
/-! ### digits -/
def isDg (c : UInt8) : Bool := decide (48 ≤ (c.toNat : Int) ∧ (c.toNat : Int) ≤ 57)
end Go.Proofs.YtagmkfbbhfaceaaGreatDoor
namespace Go.Proofs.YtagmkfbbhfaceaaGreatDoor
open Go Go.RowKit
set_option maxRecDepth 10000



end Go.Proofs.YtagmkfbbhfaceaaGreatDoor
namespace Go.Proofs.YtagmkfbbhfaceaaGreatDoor
open Go Go.RowKit
set_option maxRecDepth 10000


end Go.Proofs.YtagmkfbbhfaceaaGreatDoor
namespace Go.Proofs.YtagmkfbbhfaceaaGreatDoor
open Go Go.RowKit
set_option maxRecDepth 10000



end Go.Proofs.YtagmkfbbhfaceaaGreatDoor
namespace Go.Proofs.YtagmkfbbhfaceaaGreatDoor
open Go Go.RowKit
set_option maxRecDepth 10000
/-! ### pieces, joined again -/
/-! ### digits -/
theorem isDg_iff {c : UInt8} : isDg c = true ↔ 48 ≤ c.toNat ∧ c.toNat ≤ 57 := by
  unfold isDg; rw [decide_eq_true_eq]; omega
theorem dgt_of {n : Nat} (h : n < 10) : (UInt8.ofNat (48 + n)).toNat = 48 + n := by
  rw [UInt8.toNat_ofNat', Nat.mod_eq_of_lt (by omega)]
theorem decD_small {n : Nat} (h : n < 10) : Lib.decDigits n = [UInt8.ofNat (48 + n)] := by rw [Lib.decDigits, dif_pos h]
theorem decD_big {n : Nat} (h : ¬ n < 10) : Lib.decDigits n = Lib.decDigits (n / 10) ++ [UInt8.ofNat (48 + n % 10)] := by rw [Lib.decDigits, dif_neg h]
theorem decD_dg (n : Nat) : ∀ c ∈ Lib.decDigits n, isDg c = true := by
  induction n using Nat.strongRecOn with
  | ind n ih =>
    intro c hc
    by_cases h : n < 10
    · rw [decD_small h] at hc
      rw [List.mem_singleton.1 hc, isDg_iff, dgt_of h]; omega
    · rw [decD_big h] at hc
      rcases List.mem_append.1 hc with hc | hc
      · exact ih (n / 10) (by omega) c hc
      · rw [List.mem_singleton.1 hc, isDg_iff, dgt_of (Nat.mod_lt _ (by decide))]; omega
theorem decD_len : ∀ (k n : Nat), n < 10 ^ (k + 1) → (Lib.decDigits n).length ≤ k + 1
  | 0, n, h => by
    rw [decD_small (by omega)]; exact Nat.le_refl _
  | k + 1, n, h => by
    by_cases q : n < 10
    · rw [decD_small q]; simp
    · rw [decD_big q, List.length_append]
      have := decD_len k (n / 10) (by rw [Nat.pow_succ] at h; omega)
      simp only [List.length_cons, List.length_nil]; omega
theorem decD_pos (n : Nat) : 0 < (Lib.decDigits n).length := by
  by_cases q : n < 10
  · rw [decD_small q]; exact Nat.one_pos
  · rw [decD_big q, List.length_append]; simp
theorem itoa_dec {n : Int} (h : 0 ≤ n) : Lib.itoa n = Lib.decDigits n.toNat := by
  have h1 := Lib.itoa_nonneg n.toNat
  rw [Int.toNat_of_nonneg h] at h1; exact h1
/-! ### bills, read -/
def Bil.bare (x : Bil) : Bil := ⟨x.n, x.c, x.t, x.f, x.o, x.s, none, 0, 0, 0⟩
/-! ### the text of a valid bill is parsed as this bill -/
end Go.Proofs.YtagmkfbbhfaceaaGreatDoor
namespace Go.Proofs.YtagmkfbbhfaceaaGreatDoor
open Go Go.RowKit
set_option maxRecDepth 10000
/-! ### gauge lines -/
structure Gau where
  st : Int
  hr : Int
  s : List Int
  ao : Option Addr
  g : Nat
  ob : Nat
  cp : Nat
instance : Inhabited Gau := ⟨⟨0, 0, [], none, 0, 0, 0⟩⟩
def encGau (x : Gau) : List Value := [.int .i64 x.st, .int .i64 x.hr, .slice x.ao x.s.length x.cp]
def okGau (x : Gau) : Bool := decide ((0 ≤ x.st ∧ x.st ≤ 99) ∧ (0 ≤ x.hr ∧ x.hr ≤ 100000) ∧ (1 ≤ x.s.length ∧ x.s.length ≤ 24) ∧ ∀ n ∈ x.s, 0 ≤ n ∧ n ≤ 10000)
theorem okGau_iff {x : Gau} (h : okGau x = true) : (0 ≤ x.st ∧ x.st ≤ 99) ∧ (0 ≤ x.hr ∧ x.hr ≤ 100000) ∧ (1 ≤ x.s.length ∧ x.s.length ≤ 24) ∧ ∀ n ∈ x.s, 0 ≤ n ∧ n ≤ 10000 := of_decide_eq_true h
def aftG (a b : Gau) : Prop := a.st < b.st ∨ (b.st = a.st ∧ a.hr + (a.s.length : Int) ≤ b.hr)
instance (a b : Gau) : Decidable (aftG a b) := by unfold aftG; infer_instance
def dW (d : Int) : List UInt8 := if d < 0 then Lib.itoa d else 43 :: Lib.itoa d
def difG : Int → List Int → List (List UInt8)
  | _, [] => []
  | a, b :: r => dW (b - a) :: difG b r
def wrdG (x : Gau) : List (List UInt8) := [Lib.itoa x.st, Lib.itoa x.hr, Lib.itoa (nth x.s 0)] ++ difG (nth x.s 0) (x.s.drop 1)
def gauP (x : Gau) : List UInt8 := sealedP (wrdG x)
def Gau.bare (x : Gau) : Gau := ⟨x.st, x.hr, x.s, none, 0, 0, 0⟩
theorem difG_take : ∀ (l : List Int) (a : Int) (i : Nat), i < l.length → difG a (l.take (i + 1)) = difG a (l.take i) ++ [dW (nth l i - nth (a :: l) i)]
  | [], _, _, h => absurd h (Nat.not_lt_zero _)
  | x :: r, a, 0, _ => rfl
  | x :: r, a, i + 1, h => by
    have ih := difG_take r x i (by simpa using h)
    show dW (x - a) :: difG x (r.take (i + 1)) = dW (x - a) :: (difG x (r.take i) ++ [dW (nth r i - nth (x :: r) i)])
    rw [ih]
theorem nth_cons_drop {l : List Int} (h : 0 < l.length) (i : Nat) : nth (nth l 0 :: l.drop 1) i = nth l i := by
  cases l with
  | nil => cases h
  | cons a r => rfl
theorem difG_next {l : List Int} {i : Nat} (h : i + 1 < l.length) : difG (nth l 0) ((l.drop 1).take (i + 1)) = difG (nth l 0) ((l.drop 1).take i) ++ [dW (nth l (i + 1) - nth l i)] := by
  rw [difG_take _ _ _ (by rw [List.length_drop]; omega), nth_cons_drop (by omega), nth_drop, Nat.add_comm 1 i]
theorem difG_len : ∀ (l : List Int) (a : Int), (difG a l).length = l.length
  | [], _ => rfl
  | x :: r, a => by show (difG x r).length + 1 = r.length + 1; rw [difG_len r x]
/-! numbers with a sign -/
theorem itoa_minus {d : Int} (h : d < 0) : Lib.itoa d = 45 :: Lib.decDigits (-d).toNat := by
  have h1 := Lib.itoa_neg (-d).toNat (by omega)
  rw [Int.toNat_of_nonneg (by omega), Int.neg_neg] at h1; exact h1
/-! round trips -/
/-! ### gauge files, read -/
/-! ### gauge files, written -/
def aftO : Option Gau → Gau → Prop
  | none, _ => True
  | some q, x => aftG q x
instance (p : Option Gau) (x : Gau) : Decidable (aftO p x) := by cases p <;> unfold aftO <;> infer_instance
def chkGa : Option Gau → List Gau → Int
  | _, [] => 0
  | p, x :: r => if okGau x = true then (if aftO p x then chkGa (some x) r else 6) else 2
def prvG (l : List Gau) (i : Nat) : Option Gau := if i = 0 then none else some (nth l (i - 1))
def textG (l : List Gau) : List UInt8 × Int := if 200 < l.length then ([], 5) else if chkGa none l = 0 then (l.flatMap gauP, 0) else ([], chkGa none l)
theorem chkGa_ok {p : Option Gau} {x : Gau} {r : List Gau} (h1 : okGau x = true) (h2 : aftO p x) : chkGa p (x :: r) = chkGa (some x) r := by
  show (if okGau x = true then _ else _) = _
  rw [if_pos h1, if_pos h2]
theorem dW_len {d : Int} (h : -10000 ≤ d ∧ d ≤ 10000) : (dW d).length ≤ 7 := by
  unfold dW
  by_cases q : d < 0
  · have := decD_len 5 (-d).toNat (by omega)
    rw [if_pos q, itoa_minus q, List.length_cons]; omega
  · have := decD_len 5 d.toNat (by omega)
    rw [if_neg q, itoa_dec (by omega), List.length_cons]; omega
theorem difG_wlen : ∀ (r : List Int) (a : Int), (0 ≤ a ∧ a ≤ 10000) → (∀ n ∈ r, 0 ≤ n ∧ n ≤ 10000) → ∀ w ∈ difG a r, w.length ≤ 7
  | [], _, _, _, w, h => by cases h
  | b :: r, a, ha, hr, w, h => by
    have hb := hr b (List.mem_cons_self ..)
    rcases List.mem_cons.1 (show w ∈ dW (b - a) :: difG b r from h) with h | h
    · rw [h]; exact dW_len (by omega)
    · exact difG_wlen r b hb (fun n hn => hr n (List.mem_cons_of_mem _ hn)) w h
theorem wrdG_len {x : Gau} (h : okGau x = true) : (wrdG x).length = x.s.length + 2 ∧ (Lib.join (wrdG x) [32]).length ≤ 300 := by
  obtain ⟨h1, h2, ⟨h3, h4⟩, h5⟩ := okGau_iff h
  have h0 := h5 _ (nth_mem (xs := x.s) (i := 0) (by omega))
  have hl : (wrdG x).length = x.s.length + 2 := by
    unfold wrdG
    rw [List.length_append, difG_len, List.length_drop]
    simp only [List.length_cons, List.length_nil]; omega
  refine ⟨hl, ?_⟩
  have hw : ∀ w ∈ wrdG x, w.length ≤ 7 := fun w hw => by
    unfold wrdG at hw
    have hi : ∀ n : Int, 0 ≤ n → n ≤ 100000 → (Lib.itoa n).length ≤ 7 := fun n a b => by
      have := decD_len 5 n.toNat (by omega)
      rw [itoa_dec a]; omega
    rcases List.mem_append.1 hw with hw | hw
    · rcases List.mem_cons.1 hw with hw | hw
      · rw [hw]; exact hi _ (by omega) (by omega)
      rcases List.mem_cons.1 hw with hw | hw
      · rw [hw]; exact hi _ (by omega) (by omega)
      · rw [List.mem_singleton.1 hw]; exact hi _ (by omega) (by omega)
    · exact difG_wlen _ _ h0 (fun n hn => h5 n (List.mem_of_mem_drop hn)) w hw
  have h9 := join_len [32] 7 (wrdG x) hw
  rw [hl] at h9
  have h8 : (x.s.length + 2) * (7 + 1) ≤ 26 * 8 := Nat.mul_le_mul_right _ (by omega)
  have h7 : ([32] : List UInt8).length = 1 := rfl
  rw [h7] at h9
  omega
theorem gauP_le {x : Gau} (h : okGau x = true) : (gauP x).length ≤ 304 := by
  have h1 := (wrdG_len h).2
  unfold gauP sealedP
  rw [sealP_len, List.length_append]
  simp only [List.length_cons, List.length_nil]
  omega
/-- the first words of a gauge line -/
def wlG (x : Gau) (i : Nat) : List (List UInt8) := [Lib.itoa x.st, Lib.itoa x.hr, Lib.itoa (nth x.s 0)] ++ difG (nth x.s 0) ((x.s.drop 1).take i)
theorem wlG_next {x : Gau} {i : Nat} (h : i + 1 < x.s.length) : wlG x (i + 1) = wlG x i ++ [dW (nth x.s (i + 1) - nth x.s i)] := by
  unfold wlG
  rw [difG_next h, ← List.append_assoc]
theorem wlG_end {x : Gau} {i : Nat} (h : x.s.length ≤ i + 1) : wlG x i = wrdG x := by
  unfold wlG wrdG
  rw [List.take_of_length_le (by rw [List.length_drop]; omega)]
theorem wlG_len (x : Gau) (i : Nat) : (wlG x i).length ≤ 3 + i := by
  unfold wlG
  rw [List.length_append, difG_len, List.length_take]
  simp only [List.length_cons, List.length_nil]; omega
theorem itoa_sign {d : Int} (h : d < 0) : nth (Lib.itoa d) 0 = 45 ∧ 0 < (Lib.itoa d).length := by
  rw [itoa_minus h]; exact ⟨rfl, Nat.succ_pos _⟩
theorem itoa_nosign {d : Int} (h : 0 ≤ d) : nth (Lib.itoa d) 0 ≠ 45 ∧ 0 < (Lib.itoa d).length := by
  rw [itoa_dec h]
  have hp := decD_pos d.toNat
  refine ⟨fun e => ?_, hp⟩
  have h9 := decD_dg d.toNat _ (nth_mem hp)
  rw [e] at h9
  revert h9; decide
theorem itoa_first {d : Int} : ((nth (Lib.itoa d) 0).toNat ≠ 45 ↔ 0 ≤ d) ∧ 0 < (Lib.itoa d).length := by
  by_cases q : d < 0
  · refine ⟨⟨fun h => ?_, fun h => by omega⟩, (itoa_sign q).2⟩
    rw [(itoa_sign q).1] at h; exact absurd rfl h
  · refine ⟨⟨fun _ => by omega, fun _ h => ?_⟩, (itoa_nosign (by omega)).2⟩
    exact (itoa_nosign (d := d) (by omega)).1 (UInt8.toNat_inj.1 h)

end Go.Proofs.YtagmkfbbhfaceaaGreatDoor
namespace Go.Proofs.YtagmkfbbhfaceaaGreatDoor
open Go Go.RowKit Go.Proofs.Tryz
set_option maxRecDepth 10000
theorem isGauge_c (x : Gau) (w0 : World) (hs : Sl encI 1 w0 x.ao x.g x.ob x.s) (_hcp : x.s.length ≤ x.cp) (hsl : x.s.length ≤ 17592186044416) :
    CallsV Tryz.prog 102 [.agg #[.int .i64 x.st, .int .i64 x.hr, .slice x.ao x.s.length x.cp]] w0 (fun v w' => v = .bool (okGau x) ∧ Ext w0 w') := by
 refine f_n func102 ?_
 refine go ?_
 refine x_b fun bk2 w3 ebk2 sbk2 B4 u5 => ?_
 refine go ?_
 refine x_l fun bk8 w9 ebk8 sbk8 B10 u11 => ?_
 refine x_c func108 rfl rfl (within1_v 0 99 x.st bk8 _ _ B10) ?_
 rintro _ w14 ⟨rfl, u15⟩ zu15
 refine go ?_
 refine t_splitp 7 rfl (fun g7 => ?_) (fun g7 => ?_)
 ·
  refine go ?_
  refine x_l fun bk18 w19 ebk18 sbk18 B20 u21 => ?_
  refine x_c func108 rfl rfl (within1_v 0 100000 x.hr bk18 _ _ B20) ?_
  rintro _ w24 ⟨rfl, u25⟩ zu25
  refine go ?_
  refine t_splitp 13 rfl (fun g13 => ?_) (fun g13 => ?_)
  ·
   refine go ?_
   refine x_l fun bk28 w29 ebk28 sbk28 B30 u31 => ?_
   refine x_c func108 rfl rfl (within1_v 1 24 (x.s.length : Int) bk28 _ _ B30) ?_
   rintro _ w34 ⟨rfl, u35⟩ zu35
   refine go ?_
   refine t_splitp 20 rfl (fun g20 => ?_) (fun g20 => ?_)
   ·
    refine go ?_
    refine x_c func108 rfl rfl (within_c 0 10000 x.s x.ao x.g x.ob x.cp _ (hs.keep ((((((((Upd.refl (fun _ => False) w0).nx u5).nx u11).nx u15).nx u21).nx u25).nx u31).nx u35) (fun _ h => h)) (by omega)) ?_
    rintro _ w39 ⟨rfl, u40⟩ zu40
    refine go ?_
    refine f_1 results102 ?_
    exact ⟨congrArg Value.bool (by unfold okGau; first | exact (decide_eq_false (by omega)).symm | exact (decide_eq_false (fun h => by have h1 := h.1; have h2 := h.2.1; have h3 := h.2.2.1; omega)).symm | exact decide_eq_decide.2 ⟨fun h => ⟨by omega, by omega, by omega, h⟩, fun h => h.2.2.2⟩), u_d⟩
   refine go ?_
   refine f_1 results102 ?_
   exact ⟨congrArg Value.bool (by unfold okGau; first | exact (decide_eq_false (by omega)).symm | exact (decide_eq_false (fun h => by have h1 := h.1; have h2 := h.2.1; have h3 := h.2.2.1; omega)).symm | exact decide_eq_decide.2 ⟨fun h => ⟨by omega, by omega, by omega, h⟩, fun h => h.2.2.2⟩), u_d⟩
  refine go ?_
  refine f_1 results102 ?_
  exact ⟨congrArg Value.bool (by unfold okGau; first | exact (decide_eq_false (by omega)).symm | exact (decide_eq_false (fun h => by have h1 := h.1; have h2 := h.2.1; have h3 := h.2.2.1; omega)).symm | exact decide_eq_decide.2 ⟨fun h => ⟨by omega, by omega, by omega, h⟩, fun h => h.2.2.2⟩), u_d⟩
 refine go ?_
 refine f_1 results102 ?_
 exact ⟨congrArg Value.bool (by unfold okGau; first | exact (decide_eq_false (by omega)).symm | exact (decide_eq_false (fun h => by have h1 := h.1; have h2 := h.2.1; have h3 := h.2.2.1; omega)).symm | exact decide_eq_decide.2 ⟨fun h => ⟨by omega, by omega, by omega, h⟩, fun h => h.2.2.2⟩), u_d⟩

theorem gaugeAfter_c (x y : Gau) (w0 : World) (hx : okGau x = true) :
    CallsV Tryz.prog 103 [.agg #[.int .i64 x.st, .int .i64 x.hr, .slice x.ao x.s.length x.cp], .agg #[.int .i64 y.st, .int .i64 y.hr, .slice y.ao y.s.length y.cp]] w0 (fun v w' => v = .bool (decide (aftG x y)) ∧ Ext w0 w') := by
 have hx9 := okGau_iff hx
 obtain ⟨hx1, hx2, hx3, _⟩ := hx9
 refine f_n func103 ?_
 refine go ?_
 refine x_b fun bk2 w3 ebk2 sbk2 B4 u5 => ?_
 refine x_b fun bk7 w8 ebk7 sbk7 B9 u10 => ?_
 refine go ?_
 refine t_splitp 10 rfl (fun g10 => ?_) (fun g10 => ?_)
 ·
  refine go ?_
  refine f_1 results103 ?_
  exact ⟨congrArg Value.bool (by unfold aftG; first | exact (decide_eq_false (by omega)).symm | exact (decide_eq_true (by omega)).symm | exact decide_eq_decide.2 (by omega)), u_d⟩
 refine go ?_
 refine t_splitp 16 rfl (fun g16 => ?_) (fun g16 => ?_)
 ·
  refine go ?_
  refine f_1 results103 ?_
  exact ⟨congrArg Value.bool (by unfold aftG; first | exact (decide_eq_false (by omega)).symm | exact (decide_eq_true (by omega)).symm | exact decide_eq_decide.2 (by omega)), u_d⟩
 refine go ?_
 refine f_1 results103 ?_
 exact ⟨congrArg Value.bool (by unfold aftG; first | exact (decide_eq_false (by omega)).symm | exact (decide_eq_true (by omega)).symm | exact decide_eq_decide.2 (by omega)), u_d⟩

set_option maxHeartbeats 4000000 in
set_option maxRecDepth 20000 in
theorem gaugeLine_c (x : Gau) (w0 : World) (hs : Sl encI 1 w0 x.ao x.g x.ob x.s) (hcp : x.s.length ≤ x.cp) (hsl : x.s.length ≤ 17592186044416) (hok : okGau x = true) (hT : Tab10 w0) (_hpos : 0 < w0.heap.size) :
    CallsV Tryz.prog 104 [.agg #[.int .i64 x.st, .int .i64 x.hr, .slice x.ao x.s.length x.cp]] w0 (fun v w' => v = .string (strB (gauP x)) ∧ Ext w0 w') := by
 have hx9 := okGau_iff hok
 obtain ⟨hx1, hx2, hx3, hx4⟩ := hx9
 have hx0 := hx4 _ (nth_mem (xs := x.s) (i := 0) (by omega))
 have hblt := hs.lt (show 0 < x.s.length by omega)
 refine f_n func104 ?_
 refine go ?_
 refine x_b fun bk2 w3 ebk2 sbk2 B4 u5 => ?_
 refine go ?_
 refine c_drawnM follows (fun _ => False) (OTl [0, 2, 6, 8, 12, 14, 16, 18, 5, 11, 21, 23, 24]) (by kernel_rfl) fun w8 u9 => ?_
 have zu9 := u9.size
 have E10 := Sc.mk (((Upd.refl (fun _ => False) w0).nx u5).nx u9)
 refine go ?_
 refine y_i 0 (hs.keep E10.u (fun _ h => h)) (fun _ => ?_)
 refine go ?_
 refine x_c func147 rfl rfl (itoa_c x.st _ (by omega) (hT.ext E10.u)) ?_
 rintro _ w13 ⟨rfl, u14⟩ zu14
 have E16 := Sc.mk (E10.u.nx u14)
 refine go ?_
 refine x_c func147 rfl rfl (itoa_c x.hr _ (by omega) (hT.ext E16.u)) ?_
 rintro _ w18 ⟨rfl, u19⟩ zu19
 have E21 := Sc.mk (E16.u.nx u19)
 refine go ?_
 refine x_c func147 rfl rfl (itoa_c (nth x.s 0) _ (by omega) (hT.ext E21.u)) ?_
 rintro _ w23 ⟨rfl, u24⟩ zu24
 refine go ?_
 refine x_l fun bk27 w28 ebk27 sbk27 B29 u30 => ?_
 refine go ?_
 refine t_sliceFrom 1 underlying28 sizeOf3 rfl rfl rfl rfl rfl (by omega) (by omega) ?_
 refine go ?_
 refine x_l2 (fun i => i = bk27 ∨ w28.heap.size ≤ i) [1, 21, 22] (fun (i : Nat) (q : (Option Addr × Nat × Nat)) => [(3, .slice q.1 ((wlG x i).length) q.2.2), (23, .int .i64 (i : Int))]) (fun i q w => (i ≤ x.s.length - 1) ∧ (Acc encStr 1 9 w0.heap.size w q.1 q.2.1 q.2.2 (wlG x i)) ∧ (q.2.1 = bk27 ∨ w28.heap.size ≤ q.2.1)) (fun i q => x.s.length - 1 - i) 0 (some ⟨bk27, 0, none⟩, bk27, 3) ⟨(Nat.zero_le _), (Acc.ofBlk (base := w0.heap.size) (xs := wlG x 0) encStr 1 (fun _ => rfl) B29 (by omega) (by have h9 := wlG_len x 0; omega)), (.inl rfl)⟩ ?_
 rintro i q w35 ⟨hi, hA, hqW⟩ u36 zu36 K34 hK34
 have E37 := Sc.mk (((E21.u.nx u24).nx u30).next u36 (fun i hi h => by omega))
 have lt_q_2_1 := hA.lt
 have hwl := wlG_len x i
 have hdrl : (x.s.drop 1).length = x.s.length - 1 := List.length_drop
 refine go ?_
 refine q_p (fun g24 => ?_) fun g24 => ?_
 ·
  have hv1 := hx4 _ (nth_mem (xs := x.s) (i := i + 1) (by omega))
  have hv2 := hx4 _ (nth_mem (xs := x.s) (i := i) (by omega))
  obtain ⟨hfs, hfl⟩ := itoa_first (d := (nth x.s (i + 1) - nth x.s i))
  have hil := itoa_len (n := (nth x.s (i + 1) - nth x.s i)) (by omega)
  refine go ?_
  refine g_i i (by have h9 := ((hs.keep E37.u (fun _ h => h))).sub x.cp 1 (x.s.length - 1) hcp; rw [List.take_of_length_le (by rw [List.length_drop]; exact Nat.le_refl _)] at h9; exact h9) (fun _ => ?_)
  refine st1 ?_
  refine t_same 27 (v := .int .i64 (nth x.s (i + 1))) rfl (congrArg (Value.int .i64) (by rw [nth_drop, Nat.add_comm])) ?_
  refine go ?_
  refine g_i i (hs.keep E37.u (fun _ h => h)) (fun _ => ?_)
  refine go ?_
  refine x_c func147 rfl rfl (itoa_c ((nth x.s (i + 1)) - (nth x.s i)) _ (by omega) (hT.ext E37.u)) ?_
  rintro _ w46 ⟨rfl, u47⟩ zu47
  refine go ?_
  refine t_idxS 0 underlying9 rfl rfl rfl rfl rfl (by omega) ?_
  refine go ?_
  refine q_p (fun g38 => ?_) fun g38 => ?_
  ·
   have hd0 : 0 ≤ (nth x.s (i + 1) - nth x.s i) := hfs.1 (by omega)
   refine go ?_
   refine t_bo (Bo.addS (by simp only [List.length_cons, List.length_nil]; omega)) rfl rfl rfl rfl (t_same 40 (v := .string (strB (dW (nth x.s (i + 1) - nth x.s i)))) rfl (congrArg (fun z => Value.string (strB z)) (by unfold dW; rw [if_neg (by omega)]; rfl)) ?_)
   refine go ?_
   refine x_l fun bk52 w53 ebk52 sbk52 B54 u55 => ?_
   have D57 := ((hA.keep u47 (fun _ h => h)).keep u55 (fun _ h => h))
   refine t_append (z := .string (strB ([]))) (bytes := 16) (k := 1) (base := w0.heap.size) (dW (nth x.s (i + 1) - nth x.s i)) underlying206 (by kernel_rfl) rfl (by decide) (fun _ => rfl) (by intro x; simp [encStr, Value.oneCell']) rfl rfl rfl rfl D57 B54 (by omega) (by omega) (by decide) (fun ao58 gb59 cp60 w61 A62 u63 gegb59 lngb59 => ?_)
   have zu63 := u63.size
   have lt_gb59 := A62.lt
   refine go ?_
   exact hK34 (i + 1) (ao58, gb59, cp60) ⟨(by omega), (by rw [wlG_next (by omega)]; exact A62), (show gb59 = bk27 ∨ w28.heap.size ≤ gb59 by omega)⟩ (hs := by exact ⟨(congrArg some (by rw [wlG_next (by omega)])), rfl, rfl, rfl, rfl, trivial⟩)
  have hd0 : (nth x.s (i + 1) - nth x.s i) < 0 := by
    rcases Int.lt_or_le (nth x.s (i + 1) - nth x.s i) 0 with h | h
    · exact h
    · exact absurd (hfs.2 h) (by omega)
  refine c_same 6 (v := .string (strB (dW (nth x.s (i + 1) - nth x.s i)))) rfl (congrArg (fun z => Value.string (strB z)) (by unfold dW; rw [if_pos hd0])) ?_
  refine go ?_
  refine x_l fun bk65 w66 ebk65 sbk65 B67 u68 => ?_
  have D70 := ((hA.keep u47 (fun _ h => h)).keep u68 (fun _ h => h))
  refine t_append (z := .string (strB ([]))) (bytes := 16) (k := 1) (base := w0.heap.size) (dW (nth x.s (i + 1) - nth x.s i)) underlying206 (by kernel_rfl) rfl (by decide) (fun _ => rfl) (by intro x; simp [encStr, Value.oneCell']) rfl rfl rfl rfl D70 B67 (by omega) (by omega) (by decide) (fun ao71 gb72 cp73 w74 A75 u76 gegb72 lngb72 => ?_)
  have zu76 := u76.size
  have lt_gb72 := A75.lt
  refine go ?_
  exact hK34 (i + 1) (ao71, gb72, cp73) ⟨(by omega), (by rw [wlG_next (by omega)]; exact A75), (show gb72 = bk27 ∨ w28.heap.size ≤ gb72 by omega)⟩ (hs := by exact ⟨(congrArg some (by rw [wlG_next (by omega)])), rfl, rfl, rfl, rfl, trivial⟩)
 have hend := wlG_end (x := x) (i := i) (by omega)
 have hjl := wrdG_len hok
 refine go ?_
 refine x_c func148 rfl rfl (by have h9 := sealed_c (wlG x i) q.1 q.2.1 0 q.2.2 w35 (hA.sl (fun _ => rfl)) (hA).cap_le (by omega) (by rw [hend]; omega); rw [hend] at h9 ⊢; exact h9) ?_
 rintro _ w80 ⟨rfl, u81⟩ zu81
 refine go ?_
 refine f_1 results104 ?_
 exact ⟨rfl, u_d⟩

end Go.Proofs.YtagmkfbbhfaceaaGreatDoor
namespace Go.Proofs.YtagmkfbbhfaceaaGreatDoor
open Go Go.RowKit Go.Proofs.Tryz
set_option maxRecDepth 10000
def SlG (W : World) (ys : List Gau) : Prop := ∀ z ∈ ys, Sl encI 1 W z.ao z.g z.ob z.s ∧ z.s.length ≤ z.cp ∧ z.s.length ≤ 17592186044416
theorem SlG.ext {W W' : World} {ys : List Gau} (h : SlG W ys) (u : Ext W W') : SlG W' ys := fun z hz => ⟨(h z hz).1.keep u (fun _ h => h), (h z hz).2⟩
theorem prvG_zero {l : List Gau} {i : Nat} (h : i = 0) : prvG l i = none := if_pos h
theorem prvG_pos {l : List Gau} {i : Nat} (h : 0 < i) : prvG l i = some (nth l (i - 1)) := if_neg (by omega)
theorem prvG_succ {l : List Gau} {i : Nat} : prvG l (i + 1) = some (nth l i) := by rw [prvG_pos (show 0 < i + 1 from Nat.succ_pos i), Nat.add_sub_cancel]
theorem gauges_c  (w0 : World) :
    CallsV Tryz.prog 60 [] w0 (fun v w' => v = .agg #[.func (.func 102) #[] #[], .func (.func 103) #[] #[], .func (.func 104) #[] #[], .func (.func 105) #[] #[], .int .i64 200] ∧ Ext w0 w') := by
 refine f_n func60 ?_
 refine go ?_
 refine x_n fun bk2 w3 ebk2 sbk2 B4 u5 => ?_
 refine go ?_
 refine x_s fun w8 sw8 B10 u9 => ?_
 refine go ?_
 refine f_ret1 (v := .agg #[.func (.func 102) #[] #[], .func (.func 103) #[] #[], .func (.func 104) #[] #[], .func (.func 105) #[] #[], .int .i64 200]) results60 ⟨_, _, rfl, run_loadVarN (vs := [.func (.func 102) #[] #[], .func (.func 103) #[] #[], .func (.func 104) #[] #[], .func (.func 105) #[] #[], .int .i64 200]) isAgg157 sizeOf157 rfl (B10.at.sub 0 5)⟩ ?_
 exact ⟨rfl, u_d⟩

set_option maxHeartbeats 4000000 in
theorem textG_c (l : List Gau) (al : Option Addr) (bl ol cl : Nat) (w0 : World) (hl : Sl encGau 3 w0 al bl ol l) (hss : SlG w0 l) (hll : l.length ≤ 1000000000) (hT : Tab10 w0) (hpos : 0 < w0.heap.size) :
    CallsV Tryz.prog 61 [.agg #[.func (.func 102) #[] #[], .func (.func 103) #[] #[], .func (.func 104) #[] #[], .func (.func 105) #[] #[], .int .i64 200], .slice al l.length cl] w0 (fun v w' => v = .tuple #[.string (strB (textG l).1), .int .i64 (textG l).2] ∧ Ext w0 w') := by
 refine f_n func61 ?_
 refine go ?_
 refine x_b fun bk2 w3 ebk2 sbk2 B4 u5 => ?_
 refine go ?_
 refine q_p (fun g13 => ?_) fun g13 => ?_
 ·
  refine go ?_
  refine f_ret2 (v1 := .string (strB ([]))) (v2 := .int .i64 5) results61 rfl rfl ?_
  exact ⟨by unfold textG; rw [if_pos (by omega)], u_d⟩
 refine go ?_
 refine x_n fun bk11 w12 ebk11 sbk11 B13 u14 => ?_
 have hbui := BuiM.new B13
 refine go ?_
 refine x_l1 (fun i => bk11 ≤ i) [1, 2, 6, 14, 15] (fun (i : Nat) => [(16, .int .i64 (i : Int))]) (fun i w => (i ≤ l.length) ∧ (chkGa none l = chkGa (prvG l i) (l.drop i)) ∧ (BuiM bk11 bk11 ((l.take i).flatMap gauP) w) ∧ (((l.take i).flatMap gauP).length ≤ 304 * i) ∧ (∀ j, j < i → okGau (nth l j) = true)) (fun i => l.length - i) 0 ⟨(Nat.zero_le _), rfl, hbui, (Nat.zero_le _), (fun j h => absurd h (Nat.not_lt_zero _))⟩ ?_
 rintro i w19 ⟨hi, hc, hbl, hln, hko⟩ u20 zu20 K18 hK18
 have E21 := Sc.mk ((((Upd.refl (fun _ => False) w0).nx u5).nx u14).next u20 (fun i hi h => by omega))
 refine go ?_
 refine q_p (fun g17 => ?_) fun g17 => ?_
 ·
  refine go ?_
  refine g_i i (hl.keep E21.u (fun _ h => h)) (fun _ => ?_)
  refine go ?_
  refine x_n fun bk27 w28 ebk27 sbk27 B29 u30 => ?_
  refine go ?_
  refine x_s fun w32 sw32 B34 u33 => ?_
  have E35 := Sc.mk ((E21.u.nx u30).next u33 (fun i hi h => by omega))
  refine go ?_
  refine x_c func102 rfl rfl (isGauge_c (nth l i) _ ((hss _ (nth_mem (xs := l) (i := i) (by omega))).1.keep E35.u (fun _ h => h)) (hss _ (nth_mem (xs := l) (i := i) (by omega))).2.1 (hss _ (nth_mem (xs := l) (i := i) (by omega))).2.2) ?_
  rintro _ w39 ⟨rfl, u40⟩ zu40
  refine go ?_
  refine q_b (fun g21 => ?_) fun g21 => ?_
  ·
   have hx : okGau (nth l i) = false := by simpa using g21
   refine go ?_
   refine f_ret2 (v1 := .string (strB ([]))) (v2 := .int .i64 2) results61 rfl rfl ?_
   have h200 : ¬ 200 < l.length := by omega
   have he : chkGa none l = 2 := by rw [hc, drop_nth (by omega)]; unfold chkGa; rw [if_neg (by rw [hx]; decide)]
   exact ⟨by unfold textG; rw [if_neg h200, he, if_neg (by decide)], u_d⟩
  have hx : okGau (nth l i) = true := by simpa using g21
  have hpl := gauP_le hx
  refine go ?_
  refine c_drawnM follows (fun _ => False) (OTl [0, 2, 4, 6, 8, 10, 12, 14, 16, 18, 20, 23, 24, 26, 28]) (by kernel_rfl) fun w45 u46 => ?_
  have zu46 := u46.size
  have E47 := Sc.mk ((E35.u.nx u40).nx u46)
  refine go ?_
  refine y_splitp 30 rfl (fun g30 => ?_) (fun g30 => ?_)
  ·
   refine go ?_
   refine y_i (i - 1) (hl.keep E47.u (fun _ h => h)) (fun _ => ?_)
   refine go ?_
   refine x_c func103 rfl rfl (gaugeAfter_c (nth l (i - 1)) (nth l i) _ (hko (i - 1) (by omega))) ?_
   rintro _ w50 ⟨rfl, u51⟩ zu51
   have E53 := Sc.mk (E47.u.nx u51)
   refine go ?_
   refine q_p (fun g27 => ?_) fun g27 => ?_
   ·
    have hmn : ¬ aftO (prvG l i) (nth l i) := by
      rw [prvG_pos (by omega)]
      exact g27
    refine go ?_
    refine f_ret2 (v1 := .string (strB ([]))) (v2 := .int .i64 6) results61 rfl rfl ?_
    have h200 : ¬ 200 < l.length := by omega
    have he : chkGa none l = 6 := by rw [hc, drop_nth (by omega)]; unfold chkGa; rw [if_pos hx, if_neg hmn]
    exact ⟨by unfold textG; rw [if_neg h200, he, if_neg (by decide)], u_d⟩
   have hmn : aftO (prvG l i) (nth l i) := by
     rw [prvG_pos (by omega)]
     exact Decidable.not_not.1 g27
   refine go ?_
   refine x_c func104 rfl rfl (gaugeLine_c (nth l i) _ ((hss _ (nth_mem (xs := l) (i := i) (by omega))).1.keep E53.u (fun _ h => h)) (hss _ (nth_mem (xs := l) (i := i) (by omega))).2.1 (hss _ (nth_mem (xs := l) (i := i) (by omega))).2.2 hx (hT.ext E53.u) (by omega)) ?_
   rintro _ w56 ⟨rfl, u57⟩ zu57
   refine x_c func109 rfl rfl (wstr_c bk11 bk11 ((l.take i).flatMap gauP) (gauP (nth l i)) _ (hbl.ext (((((((Upd.refl (fun _ => False) _).nx u30).next u33 (fun i hi (h : i = bk27) => show False by first | omega | assumption)).nx u40).nx u46).nx u51).nx u57)) (by omega) (by omega)) ?_
   rintro v60 w61 ⟨hb9, u62⟩ zu62
   refine go ?_
   exact hK18 (i + 1) ⟨(by omega), (by rw [hc, drop_nth (by omega), chkGa_ok hx hmn, prvG_succ]), (by rw [take_nth (by omega), List.flatMap_append, show [(nth l i)].flatMap gauP = gauP (nth l i) by simp]; exact hb9), (by rw [take_nth (by omega), List.flatMap_append, show [(nth l i)].flatMap gauP = gauP (nth l i) by simp, List.length_append]; omega), (fun j hj => by
     rcases Nat.lt_or_ge j i with h | h
     · exact hko j h
     · rw [show j = i by omega]; exact hx)⟩
  refine go ?_
  refine x_c func104 rfl rfl (gaugeLine_c (nth l i) _ ((hss _ (nth_mem (xs := l) (i := i) (by omega))).1.keep E47.u (fun _ h => h)) (hss _ (nth_mem (xs := l) (i := i) (by omega))).2.1 (hss _ (nth_mem (xs := l) (i := i) (by omega))).2.2 hx (hT.ext E47.u) (by omega)) ?_
  rintro _ w66 ⟨rfl, u67⟩ zu67
  refine x_c func109 rfl rfl (wstr_c bk11 bk11 ((l.take i).flatMap gauP) (gauP (nth l i)) _ (hbl.ext ((((((Upd.refl (fun _ => False) _).nx u30).next u33 (fun i hi (h : i = bk27) => show False by first | omega | assumption)).nx u40).nx u46).nx u67)) (by omega) (by omega)) ?_
  rintro v70 w71 ⟨hb9, u72⟩ zu72
  refine go ?_
  exact hK18 (i + 1) ⟨(by omega), (by rw [hc, drop_nth (by omega), chkGa_ok hx (show aftO (prvG l i) _ by rw [prvG_zero (by omega)]; trivial), prvG_succ]), (by rw [take_nth (by omega), List.flatMap_append, show [(nth l i)].flatMap gauP = gauP (nth l i) by simp]; exact hb9), (by rw [take_nth (by omega), List.flatMap_append, show [(nth l i)].flatMap gauP = gauP (nth l i) by simp, List.length_append]; omega), (fun j hj => by
    rcases Nat.lt_or_ge j i with h | h
    · exact hko j h
    · rw [show j = i by omega]; exact hx)⟩
 refine go ?_
 refine x_c func110 rfl rfl (bstr_c bk11 bk11 ((l.take i).flatMap gauP) _ hbl (by omega)) ?_
 rintro _ w77 ⟨rfl, u78⟩ zu78
 refine go ?_
 refine f_ret2 (v1 := .string (strB ((l.take i).flatMap gauP))) (v2 := .int .i64 0) results61 rfl rfl ?_
 have h200 : ¬ 200 < l.length := by omega
 have hil : l.take i = l := List.take_of_length_le (by omega)
 have he : chkGa none l = 0 := by rw [hc, List.drop_of_length_le (by omega)]; rfl
 exact ⟨by unfold textG; rw [if_neg h200, he, if_pos rfl, hil], u_d⟩

theorem WriteGauge_c (l : List Gau) (al : Option Addr) (bl ol cl : Nat) (w0 : World) (hl : Sl encGau 3 w0 al bl ol l) (hss : SlG w0 l) (hll : l.length ≤ 1000000000) (hT : Tab10 w0) (hpos : 0 < w0.heap.size) :
    CallsV Tryz.prog 24 [.slice al l.length cl] w0 (fun v w' => v = .tuple #[.string (strB (textG l).1), .int .i64 (textG l).2] ∧ Ext w0 w') := by
 refine f_n func24 ?_
 refine go ?_
 refine x_c func60 rfl rfl (gauges_c _) ?_
 rintro _ w4 ⟨rfl, u5⟩ zu5
 have E7 := Sc.mk ((Upd.refl (fun _ => False) w0).nx u5)
 refine go ?_
 refine x_c func61 rfl rfl (textG_c l al bl ol cl _ (hl.keep E7.u (fun _ h => h)) (hss.ext E7.u) hll (hT.ext E7.u) (by omega)) ?_
 rintro _ w9 ⟨rfl, u10⟩ zu10
 refine go ?_
 refine f_ret2 (v1 := .string (strB ((textG l).1))) (v2 := .int .i64 ((textG l).2)) results24 rfl rfl ?_
 exact ⟨rfl, u_d⟩

end Go.Proofs.YtagmkfbbhfaceaaGreatDoor
namespace Go.Proofs.YtagmkfbbhfaceaaGreatDoor
open Go Go.RowKit Go.Proofs.Tryz
set_option maxRecDepth 10000
end Go.Proofs.YtagmkfbbhfaceaaGreatDoor
namespace Go.Proofs.YtagmkfbbhfaceaaGreatDoor
open Go Go.RowKit Go.Proofs.Tryz
set_option maxRecDepth 10000
end Go.Proofs.YtagmkfbbhfaceaaGreatDoor
namespace Go.Proofs.YtagmkfbbhfaceaaGreatDoor
open Go Go.RowKit
set_option maxRecDepth 10000
/-! ### a log is read as it was written -/
/-! the digits of a log's data -/
end Go.Proofs.YtagmkfbbhfaceaaGreatDoor
namespace Go.Proofs.YtagmkfbbhfaceaaGreatDoor
open Go Go.RowKit Go.Proofs.Tryz
set_option maxRecDepth 10000

end Go.Proofs.YtagmkfbbhfaceaaGreatDoor
