/-
  Part 6 of the proof: contracts and plain laws. Conditions: none.
-/
import Derived.Maps.RangeRun
import Derived.Shelf.SlSortCmp.WholeK
import Derived.Shelf.SlSortCmp.NoneTotal
import Derived.Ground.SlsfProg
import Derived.Test.YtclinbbghnebaaaGreatProg
import Derived.Test.YtclinbbghnebaaaGreatCK5
namespace Go.Proofs.YtclinbbghnebaaaGreat
open Go Go.RowKit
/-- How keys and values of a map are laid. -/
structure Cod (α β : Type) where
  k : α → Value
  v : β → Value
def kvG {α β : Type} (c : Cod α β) (p : α × β) : Value × Value := (c.k p.1, c.v p.2)
/-- In block r lies a map with these keys and values. -/
def MapG {α β : Type} (cd : Cod α β) (m : List (α × β)) (w : World) (r : Nat) : Prop := ∃ es c, w.heap[r]? = some (.map es c) ∧ es.toList.map (fun e => (e.key, e.val)) = m.map (kvG cd) ∧ (∀ e ∈ es.toList, e.born < c) ∧ (es.toList.map (·.born)).Nodup
section
variable {α β : Type} {cd : Cod α β}
theorem MapG.lt {m : List (α × β)} {w : World} {r : Nat} (h : MapG cd m w r) : r < w.heap.size := by obtain ⟨es, c, h, _⟩ := h; exact lt_of_block h
theorem MapG.keep {m : List (α × β)} {w w' : World} {r : Nat} {S : Nat → Prop} (h : MapG cd m w r) (u : Upd S w w') (hn : ¬ S r) : MapG cd m w' r := by
  obtain ⟨es, c, h1, h2⟩ := h
  exact ⟨es, c, (u.block r (lt_of_block h1) hn).trans h1, h2⟩
theorem MapG.ofMemo {w : World} {r : Nat} (h : ∀ F, Memo F w r) : MapG cd [] w r := by
  obtain ⟨es, c, h1, h2⟩ := h (fun _ _ _ => False)
  have he : es.toList = [] := by
    cases he : es.toList with
    | nil => rfl
    | cons e l => obtain ⟨_, _, _, hf⟩ := h2 e (by rw [he]; simp); exact hf.elim
  exact ⟨es, c, h1, by rw [he]; rfl, by rw [he]; simp, by rw [he]; simp⟩
end
/-- Where a key stands, and its value. -/
def fG {α β : Type} [DecidableEq α] : List (α × β) → α → Nat → Option (Nat × β)
  | [], _, _ => none
  | p :: m, a, i => if a = p.1 then some (i, p.2) else fG m a (i + 1)
def gtG {α β : Type} [DecidableEq α] (m : List (α × β)) (a : α) : Option β := (fG m a 0).map (·.2)
def upG {α β : Type} [DecidableEq α] (m : List (α × β)) (a : α) (v : β) : List (α × β) := match fG m a 0 with
  | none => m ++ [(a, v)]
  | some p => m.set p.1 (a, v)
/-- What the key's type must know: whether two keys are one. -/
structure KeyOK (P : Program) (K : TypeId) {α β : Type} [DecidableEq α] (cd : Cod α β) : Prop where
  find : ∀ (m : List (α × β)) (es : List MapEntry) (a : α) (w : World), es.map (fun e => (e.key, e.val)) = m.map (kvG cd) → (Instr.findKey K (cd.k a) es).run P w = .ok ((fG m a 0).map fun p => (p.1, cd.v p.2)) w
  check : ∀ (em : Bool) (a : α) (w : World), (Instr.checkKey em 10000 K (cd.k a)).run P w = .ok () w
  stays : ∀ (a : α) (w : World), (Instr.keyThatStays (cd.k a) (cd.k a)).run P w = .ok (cd.k a) w
section
variable {α β : Type} [DecidableEq α] {cd : Cod α β}
end
section
variable {P : Program} {α β : Type} [DecidableEq α]
theorem findNowG {v : β → Value} {a : Int} : ∀ (m : List (Int × β)) (es : List MapEntry) (i : Nat), es.map (fun e => (e.key, e.val)) = m.map (kvG ⟨.int .i64, v⟩) → Instr.findNow (.int .i64) (.int .i64 a) es i = some ((fG m a i).map fun p => (p.1, v p.2))
  | [], [], i, _ => rfl
  | [], _ :: _, _, h => by simp at h
  | _ :: _, [], _, h => by simp at h
  | p :: m, e :: es, i, h => by
    simp only [List.map_cons, List.cons.injEq, kvG, Prod.mk.injEq] at h
    obtain ⟨⟨hk, hv⟩, h⟩ := h
    have ih := findNowG (a := a) m es (i + 1) h
    by_cases q : a = p.1
    · simp [Instr.findNow, hk, hv, Instr.sameNow, fG, q]
    · have hs : Instr.sameNow (.int .i64) (.int .i64 a) e.key = some false := by rw [hk]; simp [Instr.sameNow, q]
      rw [Instr.findNow, hs]
      simp only [fG, if_neg q]
      exact ih
theorem checkKeyN {K : TypeId} (hK : P.underlying K = some (.int .i64)) (em : Bool) (n : Nat) (a : Int) (w : World) : (Instr.checkKey em (n + 1) K (.int .i64 a)).run P w = .ok () w := by
  simp [Instr.checkKey, run_underlying hK]
theorem KeyOK.int {K : TypeId} (hK : P.underlying K = some (.int .i64)) (v : β → Value) : KeyOK P K (⟨.int .i64, v⟩ : Cod Int β) :=
  ⟨fun m es a w h => by simp [Instr.findKey, run_underlying hK, findNowG m es 0 h], fun em a w => checkKeyN hK em 9999 a w, fun a w => by simp [Instr.keyThatStays, Instr.sameBits]⟩
end
section steps
variable {rd : Option Nat} {P : Program} {ops : Array Oper} {Q : Exit → Act → World → Prop} {N : Nat} {ds : List Deferred} {rest : List Oper} {L : Slots} {w : World}
variable {α β : Type} [DecidableEq α] {cd : Cod α β}
variable {d : Nat} {ty : TypeId} {pos : String} {aft : Array Edge} {g : Option (Nat × Bool)}
end steps
section steps2
variable {rd : Option Nat} {P : Program} {ops : Array Oper} {Q : Exit → Act → World → Prop} {N : Nat} {ds : List Deferred} {rest : List Oper} {L : Slots} {w : World}
variable {α β : Type} {cd : Cod α β}
variable {d : Nat} {ty : TypeId} {pos : String} {aft : Array Edge} {g : Option (Nat × Bool)}
/-- A range over the map in block r is under way, its iterator lies in block it; these entries are to come. -/
def ItG {α β : Type} (cd : Cod α β) (m left : List (α × β)) (w : World) (r it : Nat) : Prop := ∃ es c since seen c0, w.heap[r]? = some (.map es c) ∧ es.toList.map (fun e => (e.key, e.val)) = m.map (kvG cd) ∧ (es.toList.map (·.born)).Nodup ∧ w.heap[it]? = some (.mapIter (some r) since seen c0) ∧ (∀ e ∈ es.toList, e.born < since) ∧ since ≤ c0 ∧ since ≤ c ∧ (leftOf es seen).toList.map (fun e => (e.key, e.val)) = left.map (kvG cd)
theorem ItG.keep {m left : List (α × β)} {w w' : World} {r it : Nat} {S : Nat → Prop} (h : ItG cd m left w r it) (u : Upd S w w') (h1 : ¬ S r) (h2 : ¬ S it) : ItG cd m left w' r it := by
  obtain ⟨es, c, since, seen, c0, q1, q2, q3, q4, q5⟩ := h
  exact ⟨es, c, since, seen, c0, (u.block r (lt_of_block q1) h1).trans q1, q2, q3, (u.block it (lt_of_block q4) h2).trans q4, q5⟩
theorem ItG.same {m left : List (α × β)} {w w' : World} {r it : Nat} (h : ItG cd m left w r it) (h1 : w'.heap[r]? = w.heap[r]?) (h2 : w'.heap[it]? = w.heap[it]?) : ItG cd m left w' r it := by
  obtain ⟨es, c, since, seen, c0, q1, q2, q3, q4, q5⟩ := h
  exact ⟨es, c, since, seen, c0, h1.trans q1, q2, q3, h2.trans q4, q5⟩
theorem ItG.map {m left : List (α × β)} {w : World} {r it : Nat} (h : ItG cd m left w r it) : ∃ a b, w.heap[r]? = some (.map a b) := by obtain ⟨es, c, since, seen, c0, q1, q2, q3, q4, q5⟩ := h; exact ⟨_, _, q1⟩
end steps2
end Go.Proofs.YtclinbbghnebaaaGreat
namespace Go.Proofs.YtclinbbghnebaaaGreat
open Go Go.RowKit Go.Proofs.Tryz
set_option maxRecDepth 10000

/-- The edition and the key of a message. -/
def edK (m : Msg) : Int × Int × Int := (m.c, m.n, m.r)
def keK (m : Msg) : Int × Int := (m.c, m.n)
/-- The editions, and the latest ones, of the first messages. -/
def edS (l : List Msg) : Nat → List ((Int × Int × Int) × Msg)
  | 0 => []
  | k + 1 => upG (edS l k) (edK (nth l k)) (nth l k)
def laOld (m : List ((Int × Int) × Msg)) (x : Msg) : Bool := match gtG m (keK x) with
  | none => true
  | some v => decide (v.r < x.r)
def laS (l : List Msg) : Nat → List ((Int × Int) × Msg)
  | 0 => []
  | k + 1 => if laOld (laS l k) (nth l k) = true then upG (laS l k) (keK (nth l k)) (nth l k) else laS l k
/-- Another message with the same edition. -/
def edErr (l : List Msg) (k : Nat) : Prop := ∃ o, gtG (edS l k) (edK (nth l k)) = some o ∧ o ≠ nth l k
/-- Facts in order. -/
def cmpF (a b : Msg) : Int := or3 (cmpI3 a.c b.c) (cmpI3 a.m b.m) (cmpI3 a.n b.n)
theorem cmpF_lt {a b : Msg} : cmpF a b < 0 ↔ a.c < b.c ∨ (a.c = b.c ∧ (a.m < b.m ∨ (a.m = b.m ∧ a.n < b.n))) := by
  unfold cmpF; rw [or3_lt, cmp_lt, cmp_eq, cmp_lt, cmp_eq, cmp_lt]
/-- What messages report. -/
def rdE (l : List Msg) : Int := if 100 < l.length then 5 else if (l.any fun m => !okMsg m) = true then 2 else 0
def RdR (l : List Msg) (out : List Msg) (e : Int) : Prop := (rdE l ≠ 0 ∧ e = rdE l ∧ out = []) ∨ (rdE l = 0 ∧ e = 6 ∧ out = [] ∧ ∃ k, k < l.length ∧ edErr l k) ∨
  (rdE l = 0 ∧ e = 0 ∧ (∀ k, k < l.length → ¬ edErr l k) ∧ out.Perm (((laS l l.length).map (·.2)).filter fun m => decide (m.k ≠ 7)) ∧ Asc cmpF out)
theorem Msg.eq6 {a b : Msg} (h : a.c = b.c ∧ a.n = b.n ∧ a.r = b.r ∧ a.k = b.k ∧ a.m = b.m ∧ a.v = b.v) : a = b := by
  cases a; cases b; simp_all
end Go.Proofs.YtclinbbghnebaaaGreat
namespace Go.Proofs
open Go.Shelf
end Go.Proofs
namespace Go.Proofs.YtclinbbghnebaaaGreat
open Go Go.RowKit Go.Proofs.Tryz
set_option maxRecDepth 10000

theorem upG_len {α β : Type} [DecidableEq α] (m : List (α × β)) (a : α) (v : β) : (upG m a v).length ≤ m.length + 1 := by
  unfold upG
  split
  · simp
  · rw [List.length_set]; omega
theorem laS_len (l : List Msg) : ∀ k, (laS l k).length ≤ k
  | 0 => Nat.le_refl _
  | k + 1 => by
    have := laS_len l k
    have := upG_len (laS l k) (keK (nth l k)) (nth l k)
    unfold laS
    split <;> omega
theorem own92 : Own Tryz.prog 92 := ⟨Tryz.f92, func92, by kernel_rfl, by kernel_rfl⟩
end Go.Proofs.YtclinbbghnebaaaGreat
namespace Go.Proofs.YtclinbbghnebaaaGreat
open Go Go.RowKit Go.Proofs.Tryz
set_option maxRecDepth 10000

/-- The first rows of a table of low water: one is not valid, or they do not ascend. -/
def lowK (ws : List Low) : Nat → Bool
  | 0 => ws.any fun x => !okLow x
  | k + 1 => lowK ws k || decide ((nth ws (k + 1)).b ≤ (nth ws k).b)
def okCh (c : Chr) (ws : List Low) : Bool := decide (lowK ws (ws.length - 1) = false ∧ ws.length ≤ 10 ∧ ((0 ≤ c.s ∧ c.s ≤ 99) ∧ (0 ≤ c.c ∧ c.c ≤ 99) ∧ (0 ≤ c.k ∧ c.k ≤ 99)) ∧ (0 ≤ c.r ∧ c.r ≤ 1000000) ∧ (0 ≤ c.n ∧ c.n ≤ 1000000) ∧ ((0 ≤ c.l ∧ c.l ≤ 100000) ∧ (0 ≤ c.o ∧ c.o ≤ 100000)) ∧ ((0 ≤ c.d ∧ c.d ≤ 100000000) ∧ (0 ≤ c.e ∧ c.e ≤ 100000000)) ∧ (0 ≤ c.m ∧ c.m ≤ 100))
def chkCh (c : Chr) (ws : List Low) : Int := if okCh c ws = true then 0 else 2
end Go.Proofs.YtclinbbghnebaaaGreat
namespace Go.Proofs.YtclinbbghnebaaaGreat
open Go Go.RowKit Go.Proofs.Tryz
set_option maxRecDepth 10000

/-- Two lists compared. -/
def cmpL : List Int → List Int → Int
  | [], [] => 0
  | [], _ :: _ => -1
  | _ :: _, [] => 1
  | a :: x, b :: y => if cmpI3 a b ≠ 0 then cmpI3 a b else cmpL x y
def btr (a : List Int) (ga : Int) (b : List Int) (gb : Int) : Bool := decide (or3 (cmpI3 gb ga) (cmpI3 (a.length : Int) (b.length : Int)) (cmpL a b) < 0)
/-- A hull that moves empty: its place, the minute, minutes and cost of a place. -/
structure Hul where
  p : Int
  m : Int
  s : Int
  c : Int
def okHul (h : Hul) : Prop := (0 ≤ h.p ∧ h.p ≤ 100000) ∧ (0 ≤ h.m ∧ h.m ≤ 100000) ∧ (0 ≤ h.s ∧ h.s ≤ 1000) ∧ (0 ≤ h.c ∧ h.c ≤ 100000)
def farH (h : Hul) (x : Off) : Int := max (h.p - x.f) (x.f - h.p)
theorem farH_rng {h : Hul} {x : Off} (hh : okHul h) (hx : okOff x = true) : 0 ≤ farH h x ∧ farH h x ≤ 100000 := by
  unfold okOff at hx; unfold okHul at hh; unfold farH
  rw [decide_eq_true_eq] at hx
  omega
end Go.Proofs.YtclinbbghnebaaaGreat
namespace Go.Proofs.YtclinbbghnebaaaGreat
open Go Go.RowKit Go.Proofs.Tryz
set_option maxRecDepth 10000

/-- What happened but stops, by kinds. -/
def onS (l : List Msg) : Nat → List (Int × Msg)
  | 0 => []
  | k + 1 => if (nth l k).k = 2 ∨ (nth l k).k = 3 then onS l k else upG (onS l k) (nth l k).k (nth l k)
def onErr (l : List Msg) (k : Nat) : Prop := ¬ ((nth l k).k = 2 ∨ (nth l k).k = 3) ∧ ∃ o, gtG (onS l k) (nth l k).k = some o
/-- The last fact, and the times that are excepted. -/
structure OpS where
  la : Int
  ex : List Fre
def opEx (en : Int) (ex : List Fre) (m : Msg) : List Fre := if m.k = 2 then ex ++ [⟨m.m, max en m.m⟩] else if m.k = 3 then ex.set (ex.length - 1) ⟨(nth ex (ex.length - 1)).f, m.m⟩ else ex
def opS (en : Int) (fr : List Fre) (l : List Msg) : Nat → OpS
  | 0 => ⟨0, fr⟩
  | k + 1 => if 4 < (nth l k).k then opS en fr l k else ⟨(nth l k).k, opEx en (opS en fr l k).ex (nth l k)⟩
def opGo (la k : Int) : Prop := (k = 1 ∧ la = 0) ∨ (k = 2 ∧ (la = 1 ∨ la = 3)) ∨ (k = 3 ∧ la = 2) ∨ (k = 4 ∧ la ≠ 0)
def opBad (en : Int) (fr : List Fre) (l : List Msg) (k : Nat) : Prop := ¬ 4 < (nth l k).k ∧ (¬ opGo (opS en fr l k).la (nth l k).k ∨ (opS en fr l k).la = 4)
theorem Acc.neBlk {α : Type} {enc : α → List Value} {k : Nat} {e t : TypeId} {base : Nat} {w : World} {ao : Option Addr} {g cap b : Nat} {xs : List α} {cs : List Value} (h : Acc enc k e base w ao g cap xs) (hB : Blk w b t cs) (hne : t ≠ e) (hb : base ≤ g) : g ≠ b := by
  rcases h.at_ with ⟨_, _, _, h4⟩ | ⟨_, _, cur, h1, _⟩
  · omega
  · intro q
    subst q
    unfold Blk at hB
    rw [h1] at hB
    simp only [Option.some.injEq, Obj.cells.injEq] at hB
    exact hne hB.2.1.symm
def OpE (fr : List Fre) (l : List Msg) (e : Int) : Prop := (e = 6 ∧ ∃ k, k < l.length ∧ onErr l k) ∨ (e = 7 ∧ (∀ k, k < l.length → ¬ onErr l k) ∧ (gtG (onS l l.length) 1 = none ∨ gtG (onS l l.length) 4 = none)) ∨
  (e = 9 ∧ (∀ k, k < l.length → ¬ onErr l k) ∧ ∃ n1 en, gtG (onS l l.length) 1 = some n1 ∧ gtG (onS l l.length) 4 = some en ∧ ∃ k, k < l.length ∧ opBad en.m fr l k)
def OpOk (fr : List Fre) (l : List Msg) (ex : List Fre) : Prop := (∀ k, k < l.length → ¬ onErr l k) ∧ ∃ n1 en, gtG (onS l l.length) 1 = some n1 ∧ gtG (onS l l.length) 4 = some en ∧ (∀ k, k < l.length → ¬ opBad en.m fr l k) ∧ ex = (opS en.m fr l l.length).ex
end Go.Proofs.YtclinbbghnebaaaGreat
namespace Go.Proofs.YtclinbbghnebaaaGreat
open Go Go.RowKit Go.Proofs.Tryz
set_option maxRecDepth 10000

theorem upG_mem {α β : Type} [DecidableEq α] {m : List (α × β)} {a : α} {v : β} {p : α × β} (h : p ∈ upG m a v) : p ∈ m ∨ p = (a, v) := by
  unfold upG at h
  split at h
  · rcases List.mem_append.1 h with h | h
    · exact .inl h
    · exact .inr (List.mem_singleton.1 h)
  · exact List.mem_or_eq_of_mem_set h
theorem laS_mem {l : List Msg} : ∀ {k : Nat} {p : (Int × Int) × Msg}, k ≤ l.length → p ∈ laS l k → p.2 ∈ l
  | 0, _, _, h => by cases h
  | k + 1, p, hk, h => by
    unfold laS at h
    split at h
    · rcases upG_mem h with h | h
      · exact laS_mem (by omega) h
      · rw [h]; exact nth_mem (by omega)
    · exact laS_mem (by omega) h
theorem RdR.facts {l out : List Msg} (h : RdR l out 0) : (∀ x ∈ out, x ∈ l) ∧ out.length ≤ l.length ∧ rdE l = 0 := by
  rcases h with ⟨h1, h2, _⟩ | ⟨_, h2, _⟩ | ⟨h0, _, _, hp, _⟩
  · omega
  · omega
  · refine ⟨fun x hx => ?_, ?_, h0⟩
    · obtain ⟨p, hm, rfl⟩ := List.mem_map.1 (List.mem_filter.1 (hp.mem_iff.1 hx)).1
      exact laS_mem (Nat.le_refl _) hm
    · rw [hp.length_eq]
      refine Nat.le_trans (List.length_filter_le _ _) ?_
      rw [List.length_map]
      exact laS_len l l.length
def oneC (l : List Msg) : Bool := !(l.any fun x => decide (x.c ≠ (nth l 0).c))
/-- Why there is no call. -/
def SgE (c : Chr) (ws : List Low) (fr : List Fre) (l : List Msg) (e : Int) : Prop := (chkCh c ws ≠ 0 ∧ e = chkCh c ws) ∨ (chkCh c ws = 0 ∧ chkFr fr ≠ 0 ∧ e = chkFr fr) ∨ (chkCh c ws = 0 ∧ chkFr fr = 0 ∧ e ≠ 0 ∧ ∃ o, RdR l o e) ∨
  (chkCh c ws = 0 ∧ chkFr fr = 0 ∧ ∃ out, RdR l out 0 ∧ ((oneC l = false ∧ e = 4) ∨ (oneC l = true ∧ OpE fr out e)))
end Go.Proofs.YtclinbbghnebaaaGreat
namespace Go.Proofs
open Go.Shelf
end Go.Proofs
namespace Go.Proofs.YtclinbbghnebaaaGreat
open Go Go.RowKit Go.Proofs.Tryz
set_option maxRecDepth 10000

/-- Free times within bounds: their begins can be subtracted. -/
structure FrB where
  v : Fre
  h : 0 ≤ v.f ∧ v.f ≤ 100000
instance : Inhabited FrB := ⟨⟨⟨0, 0⟩, by decide⟩⟩
def cmpFr (a b : Fre) : Int := a.f - b.f
theorem Acc.map {α β : Type} {f : α → β} {enc : β → List Value} {k : Nat} {e : TypeId} {base : Nat} {w : World} {ao : Option Addr} {g cap : Nat} {zs : List α} : Acc (fun x => enc (f x)) k e base w ao g cap zs ↔ Acc enc k e base w ao g cap (zs.map f) := by
  constructor
  · rintro ⟨h1, h2⟩
    exact ⟨h1, by simpa [List.flatMap_map] using h2⟩
  · rintro ⟨h1, h2⟩
    exact ⟨h1, by simpa [List.flatMap_map] using h2⟩
end Go.Proofs.YtclinbbghnebaaaGreat
namespace Go.Proofs.YtclinbbghnebaaaGreat
open Go Go.RowKit Go.Proofs.Tryz
set_option maxRecDepth 10000

/-- Laytime that is used, and the minute that it has come to. -/
structure CtS where
  u : Int
  a : Int
def ctUse (L en : Int) (s : CtS) (f : Fre) : Int := min (max 0 (min f.f en - s.a)) (L - s.u)
def ctStep (L en : Int) (s : CtS) (f : Fre) : CtS := if s.u = L then s else ⟨s.u + ctUse L en s f, if s.u + ctUse L en s f < L then max (s.a + ctUse L en s f) (min f.t en) else s.a + ctUse L en s f⟩
def ctS (L en b : Int) (fs : List Fre) : Nat → CtS
  | 0 => ⟨0, b⟩
  | k + 1 => ctStep L en (ctS L en b fs k) (nth fs k)
structure Lc where
  b : Int
  u : Int
  o : Int
  s : Int
/-- Laytime counted. -/
def cntP (L en b : Int) (ys : List Fre) : Lc :=
  let s := ctS L en b (ys ++ [⟨en, en⟩]) (ys.length + 1)
  let o := if s.u = L then max 0 (en - s.a) else 0
  ⟨b, s.u, o, if o = 0 then L - s.u else 0⟩
end Go.Proofs.YtclinbbghnebaaaGreat
namespace Go.Proofs.YtclinbbghnebaaaGreat
open Go Go.RowKit Go.Proofs.Tryz
set_option maxRecDepth 10000

theorem okCh_rng {c : Chr} {ws : List Low} (h : chkCh c ws = 0) : ws.length ≤ 10 ∧ ((0 ≤ c.s ∧ c.s ≤ 99) ∧ (0 ≤ c.c ∧ c.c ≤ 99) ∧ (0 ≤ c.k ∧ c.k ≤ 99)) ∧ (0 ≤ c.r ∧ c.r ≤ 1000000) ∧ (0 ≤ c.n ∧ c.n ≤ 1000000) ∧ ((0 ≤ c.l ∧ c.l ≤ 100000) ∧ (0 ≤ c.o ∧ c.o ≤ 100000)) ∧ ((0 ≤ c.d ∧ c.d ≤ 100000000) ∧ (0 ≤ c.e ∧ c.e ≤ 100000000)) ∧ (0 ≤ c.m ∧ c.m ≤ 100) := by
  unfold chkCh at h
  split at h
  · rename_i q
    unfold okCh at q
    rw [decide_eq_true_eq] at q
    exact q.2
  · omega
/-- What Laytime returns. -/
def LtR (c : Chr) (ws : List Low) (fr : List Fre) (l : List Msg) (lc : Lc) (e : Int) : Prop := (e ≠ 0 ∧ SgE c ws fr l e ∧ lc = ⟨0, 0, 0, 0⟩) ∨ (e = 0 ∧ chkCh c ws = 0 ∧ chkFr fr = 0 ∧ oneC l = true ∧ ∃ out ex n1 en ys, RdR l out 0 ∧ OpOk fr out ex ∧ gtG (onS out out.length) 1 = some n1 ∧ gtG (onS out out.length) 4 = some en ∧ List.Perm ys ex ∧ Asc cmpFr ys ∧ lc = cntP c.l en.m (n1.m + c.o) ys)
/-- The percent of the bonus at a level. -/
def pctP (ws : List Low) (lv : Int) : Int := match ws.find? fun x => decide (lv < x.b) with
  | none => 0
  | some x => x.p
end Go.Proofs.YtclinbbghnebaaaGreat
namespace Go.Proofs.YtclinbbghnebaaaGreat
open Go Go.RowKit Go.Proofs.Tryz
set_option maxRecDepth 10000

structure Bl where
  f : Int
  o : Int
  d : Int
  e : Int
  c : Int
  t : Int
def lvP (m : List (Int × Msg)) : Int := match gtG m 6 with
  | none => 0
  | some x => x.v
/-- A call settled. -/
def blP (c : Chr) (ws : List Low) (tv lv : Int) (lc : Lc) : Bl :=
  ⟨c.r * max tv c.n, rnd2 (c.r * max tv c.n * pctP ws lv) 100, rnd2 (lc.o * c.d) 1440, rnd2 (lc.s * c.e) 1440, rnd2 ((c.r * max tv c.n + rnd2 (c.r * max tv c.n * pctP ws lv) 100) * c.m) 100,
    c.r * max tv c.n + rnd2 (c.r * max tv c.n * pctP ws lv) 100 + rnd2 (lc.o * c.d) 1440 - rnd2 (lc.s * c.e) 1440⟩
/-- What bill returns. -/
def BlR (c : Chr) (ws : List Low) (ex : List Fre) (m : List (Int × Msg)) (n1 en : Msg) (b : Bl) (e : Int) : Prop := (e = 7 ∧ b = ⟨0, 0, 0, 0, 0, 0⟩ ∧ (gtG m 5 = none ∨ (gtG m 6 = none ∧ 0 < ws.length))) ∨
  (e = 0 ∧ ∃ t5 ys, gtG m 5 = some t5 ∧ (gtG m 6 = none → ws.length = 0) ∧ List.Perm ys ex ∧ Asc cmpFr ys ∧ b = blP c ws t5.v (lvP m) (cntP c.l en.m (n1.m + c.o) ys))

end Go.Proofs.YtclinbbghnebaaaGreat
namespace Go.Proofs.YtclinbbghnebaaaGreat
open Go Go.RowKit Go.Proofs.Tryz
set_option maxRecDepth 10000

/-- What Bill returns. -/
def BiR (c : Chr) (ws : List Low) (fr : List Fre) (l : List Msg) (b : Bl) (e : Int) : Prop := (e ≠ 0 ∧ SgE c ws fr l e ∧ b = ⟨0, 0, 0, 0, 0, 0⟩) ∨ (chkCh c ws = 0 ∧ chkFr fr = 0 ∧ oneC l = true ∧ ∃ out ex n1 en, RdR l out 0 ∧ OpOk fr out ex ∧ gtG (onS out out.length) 1 = some n1 ∧ gtG (onS out out.length) 4 = some en ∧ BlR c ws ex (onS out out.length) n1 en b e)

end Go.Proofs.YtclinbbghnebaaaGreat
namespace Go.Proofs.YtclinbbghnebaaaGreat
open Go Go.RowKit
set_option maxRecDepth 10000

def sumN : List Bid → Int
  | [] => 0
  | x :: l => x.n + sumN l
/-- The state of the matching: tons that are left, both queues, the trades. -/
structure MtS where
  l : Int
  zb : List Bid
  ib : Nat
  za : List Bid
  ia : Nat
  ts : List Trd
def mtN (s : MtS) : Int := min (min s.l (nth s.zb s.ib).n) (nth s.za s.ia).n
def mtStep (s : MtS) : MtS := ⟨s.l - mtN s, takeZ s.zb s.ib (mtN s), takeI s.zb s.ib (mtN s), takeZ s.za s.ia (mtN s), takeI s.za s.ia (mtN s), s.ts ++ [⟨(nth s.zb s.ib).p, (nth s.za s.ia).p, mtN s⟩]⟩
structure MtOk (nb na : Nat) (s : MtS) : Prop where
  l0 : 0 ≤ s.l
  sb : s.l ≤ sumN (s.zb.drop s.ib)
  sa : s.l ≤ sumN (s.za.drop s.ia)
  ob : ∀ x ∈ s.zb.drop s.ib, 1 ≤ x.n ∧ x.n ≤ 1000000
  oa : ∀ x ∈ s.za.drop s.ia, 1 ≤ x.n ∧ x.n ≤ 1000000
  qb : s.zb.length = nb
  qa : s.za.length = na
  ib : s.ib ≤ nb
  ia : s.ia ≤ na
  tl : 0 < s.l → s.ts.length ≤ s.ib + s.ia
theorem head_lt {zs : List Bid} {i : Nat} {l : Int} (h0 : 0 < l) (h : l ≤ sumN (zs.drop i)) : i < zs.length := by
  rcases Nat.lt_or_ge i zs.length with q | q
  · exact q
  · rw [List.drop_eq_nil_of_le q] at h; simp only [sumN] at h; omega
theorem take_ok {zs : List Bid} {i : Nat} {t : Int} (hi : i < zs.length) (h1 : ∀ x ∈ zs.drop i, 1 ≤ x.n ∧ x.n ≤ 1000000) (ht : 1 ≤ t ∧ t ≤ (nth zs i).n) :
    sumN ((takeZ zs i t).drop (takeI zs i t)) = sumN (zs.drop i) - t ∧ (∀ x ∈ (takeZ zs i t).drop (takeI zs i t), 1 ≤ x.n ∧ x.n ≤ 1000000) ∧ takeI zs i t ≤ zs.length ∧ i ≤ takeI zs i t ∧ ((nth zs i).n = t → takeI zs i t = i + 1) := by
  have e1 := drop_nth hi
  have hd : (takeZ zs i t).drop (i + 1) = zs.drop (i + 1) := by simp [takeZ, List.drop_set]
  rw [e1] at h1
  have hx := h1 (nth zs i) (by simp)
  by_cases q : (nth zs i).n - t = 0
  · have hI : takeI zs i t = i + 1 := if_pos q
    rw [hI, hd, e1]
    exact ⟨by simp only [sumN]; omega, fun x h => h1 x (List.mem_cons_of_mem _ h), by omega, by omega, fun _ => rfl⟩
  · have hI : takeI zs i t = i := if_neg q
    have e2 := drop_nth (xs := takeZ zs i t) (i := i) (by rw [takeZ_len]; exact hi)
    rw [hI, e2, takeZ_nth hi, hd, e1]
    refine ⟨by simp only [sumN, takeB]; omega, fun x h => ?_, by omega, by omega, fun h => by omega⟩
    rcases List.mem_cons.1 h with rfl | h
    · simp only [takeB]; omega
    · exact h1 x (List.mem_cons_of_mem _ h)
theorem MtOk.heads {nb na : Nat} {s : MtS} (h : MtOk nb na s) (h0 : 0 < s.l) : s.ib < s.zb.length ∧ s.ia < s.za.length ∧ (1 ≤ (nth s.zb s.ib).n ∧ (nth s.zb s.ib).n ≤ 1000000) ∧ (1 ≤ (nth s.za s.ia).n ∧ (nth s.za s.ia).n ≤ 1000000) ∧ 1 ≤ mtN s ∧ mtN s ≤ s.l ∧ mtN s ≤ (nth s.zb s.ib).n ∧ mtN s ≤ (nth s.za s.ia).n ∧ (mtN s = s.l ∨ (nth s.zb s.ib).n = mtN s ∨ (nth s.za s.ia).n = mtN s) := by
  have h1 := head_lt h0 h.sb
  have h2 := head_lt h0 h.sa
  have h3 := h.ob (nth s.zb s.ib) (by rw [drop_nth h1]; simp)
  have h4 := h.oa (nth s.za s.ia) (by rw [drop_nth h2]; simp)
  unfold mtN
  omega
theorem MtOk.step {nb na : Nat} {s : MtS} (h : MtOk nb na s) (h0 : 0 < s.l) : MtOk nb na (mtStep s) := by
  obtain ⟨h1, h2, h3, h4, h5, h6, h7, h8, h9⟩ := h.heads h0
  obtain ⟨b1, b2, b3, b4, b5⟩ := take_ok h1 h.ob ⟨h5, h7⟩
  obtain ⟨a1, a2, a3, a4, a5⟩ := take_ok h2 h.oa ⟨h5, h8⟩
  have hsb := h.sb
  have hsa := h.sa
  have hnb := h.qb
  have hna := h.qa
  have htl := h.tl h0
  exact ⟨by show 0 ≤ s.l - mtN s; omega, by show s.l - mtN s ≤ _; exact b1 ▸ (by omega), by show s.l - mtN s ≤ _; exact a1 ▸ (by omega), b2, a2, by simp only [mtStep, takeZ_len]; exact hnb, by simp only [mtStep, takeZ_len]; exact hna,
    by simp only [mtStep]; omega, by simp only [mtStep]; omega, fun q => by
      simp only [mtStep, List.length_append, List.length_singleton] at q ⊢
      rcases h9 with e | e | e
      · omega
      · have := b5 e; omega
      · have := a5 e; omega⟩
end Go.Proofs.YtclinbbghnebaaaGreat
namespace Go.Proofs.YtclinbbghnebaaaGreat
open Go Go.RowKit
set_option maxRecDepth 10000

theorem Sl.ofBlk {α : Type} [Inhabited α] {enc : α → List Value} {k : Nat} (hk : ∀ x, (enc x).length = k) {w : World} {b : Nat} {t : TypeId} {xs : List α} (h : Blk w b t (xs.flatMap enc)) : Sl enc k w (some ⟨b, 0, none⟩) b 0 xs :=
  ⟨fun _ => rfl, fun _ => h.lt, fun i hi j v hv => by
    have h1 := flatMap_at hk xs i j v hi hv
    rw [Nat.zero_add]
    exact h.get h1⟩
section
variable {P : Program} {ops : Array Oper} {Q : Exit → Act → World → Prop} {N : Nat} {ds : List Deferred} {rest : List Oper} {L : Slots} {w : World} {rd : Option Nat} {d : Nat} {ty : TypeId} {pos : String} {aft : Array Edge} {g : Option (Nat × Bool)}
end



end Go.Proofs.YtclinbbghnebaaaGreat
namespace Go.Proofs.YtclinbbghnebaaaGreat
open Go Go.RowKit
set_option maxRecDepth 10000

/-- An element goes down while it is less. -/
def insJ (c : Int → Int → Int) : List Int → Nat → List Int
  | ds, 0 => ds
  | ds, j + 1 => if c (nth ds (j + 1)) (nth ds j) < 0 then insJ c ((ds.set (j + 1) (nth ds j)).set j (nth ds (j + 1))) j else ds
def insI (c : Int → Int → Int) (ds : List Int) : Nat → List Int
  | 0 => ds
  | k + 1 => insJ c (insI c ds k) (k + 1)
theorem swp_perm {ds : List Int} {j : Nat} (h : j + 1 < ds.length) : ((ds.set (j + 1) (nth ds j)).set j (nth ds (j + 1))).Perm ds := by
  rw [nth_eq h, nth_eq (show j < ds.length by omega)]
  exact List.set_set_perm h (by omega)
theorem insJ_perm (c : Int → Int → Int) : ∀ (j : Nat) (ds : List Int), j < ds.length → (insJ c ds j).Perm ds
  | 0, _, _ => List.Perm.refl _
  | j + 1, ds, h => by
    unfold insJ
    split
    · exact (insJ_perm c j _ (by rw [List.length_set, List.length_set]; omega)).trans (swp_perm h)
    · exact List.Perm.refl _
theorem insI_perm (c : Int → Int → Int) (ds : List Int) : ∀ k, k < ds.length ∨ k = 0 → (insI c ds k).Perm ds
  | 0, _ => List.Perm.refl _
  | k + 1, h => by
    have h1 := insI_perm c ds k (.inl (by omega))
    exact (insJ_perm c (k + 1) _ (by rw [h1.length_eq]; omega)).trans h1
/-- The first k numbers are their own place. -/
def fillK (n : Nat) : Nat → List Int
  | 0 => List.replicate n 0
  | k + 1 => (fillK n k).set k (k : Int)
theorem fillK_len (n : Nat) : ∀ k, (fillK n k).length = n
  | 0 => by simp [fillK]
  | k + 1 => by simp [fillK, fillK_len n k]
theorem fillK_nth {n : Nat} : ∀ {k i : Nat}, i < n → k ≤ n → nth (fillK n k) i = if i < k then (i : Int) else 0
  | 0, i, h, _ => by rw [fillK, nth_eq (by simpa using h)]; simp
  | k + 1, i, h, hk => by
    have e : nth (fillK n (k + 1)) i = if k = i then (k : Int) else nth (fillK n k) i := by
      rw [fillK, nth_eq (by rw [List.length_set, fillK_len]; exact h), List.getElem_set, nth_eq (by rw [fillK_len]; exact h)]
    rw [e, fillK_nth h (by omega)]
    by_cases q : k = i
    · rw [if_pos q, if_pos (by omega), q]
    · rw [if_neg q]
      by_cases q2 : i < k
      · rw [if_pos q2, if_pos (by omega)]
      · rw [if_neg q2, if_neg (by omega)]
def iotaL (n : Nat) : List Int := fillK n n
theorem iotaL_len (n : Nat) : (iotaL n).length = n := fillK_len n n
theorem iotaL_nth {n i : Nat} (h : i < n) : nth (iotaL n) i = (i : Int) := by
  unfold iotaL; rw [fillK_nth h (Nat.le_refl _), if_pos h]
theorem iotaL_mem {n : Nat} {x : Int} (h : x ∈ iotaL n) : 0 ≤ x ∧ x < (n : Int) := by
  obtain ⟨i, hi, rfl⟩ := List.mem_iff_getElem.1 h
  rw [iotaL_len] at hi
  have := iotaL_nth hi
  rw [nth_eq (by rw [iotaL_len]; exact hi)] at this
  omega
/-- The order of offers: that of their begins. -/
def cmpO (l : List Off) (i k : Int) : Int := (nth l i.toNat).b - (nth l k.toNat).b
def ordP (l : List Off) : List Int := insI (cmpO l) (iotaL l.length) (l.length - 1)
theorem ordP_perm (l : List Off) : (ordP l).Perm (iotaL l.length) := insI_perm _ _ _ (by rw [iotaL_len]; omega)
theorem ordP_len (l : List Off) : (ordP l).length = l.length := by rw [(ordP_perm l).length_eq, iotaL_len]
theorem ordP_mem {l : List Off} {x : Int} (h : x ∈ ordP l) : 0 ≤ x ∧ x < (l.length : Int) := iotaL_mem ((ordP_perm l).mem_iff.1 h)
instance (h : Hul) : Decidable (okHul h) := by unfold okHul; infer_instance
/-- A run: offers one after another, and what they gain. -/
structure Rn where
  s : List Int
  g : Int
instance : Inhabited Rn := ⟨⟨[], 0⟩⟩
def aftH (h : Hul) (x : Off) : Hul := ⟨x.t, x.e, h.s, h.c⟩
def nxR (l : List Off) (h : Hul) (fr : List Rn) (now : Rn) (i : Int) : Rn := ⟨now.s ++ (nth fr i.toNat).s, now.g + (nth fr i.toNat).g - farH h (nth l i.toNat) * h.c⟩
abbrev inT (l : List Off) (h : Hul) (i : Int) : Prop := h.m + farH h (nth l i.toNat) * h.s ≤ (nth l i.toNat).b
def bstOk (l : List Off) (h : Hul) (fr : List Rn) (now out : Rn) (i : Int) : Prop := inT l h i ∧ btr (nxR l h fr now i).s (nxR l h fr now i).g out.s out.g = true
instance (l : List Off) (h : Hul) (fr : List Rn) (now out : Rn) (i : Int) : Decidable (bstOk l h fr now out i) := inferInstanceAs (Decidable (_ ∧ _))
def bstStep (l : List Off) (h : Hul) (fr : List Rn) (now out : Rn) (i : Int) : Rn := if bstOk l h fr now out i then nxR l h fr now i else out
/-- The best run of the first k later offers. -/
def bstK (l : List Off) (h : Hul) (fr : List Rn) (now : Rn) (later : List Int) : Nat → Rn
  | 0 => now
  | k + 1 => bstStep l h fr now (bstK l h fr now later k) (nth later k)
def bstP (l : List Off) (h : Hul) (fr : List Rn) (now : Rn) (later : List Int) : Rn := bstK l h fr now later later.length
/-- The best runs that begin with each of the last t offers. -/
def tabT (l : List Off) (h : Hul) (ord : List Int) : Nat → List Rn
  | 0 => List.replicate l.length ⟨[], 0⟩
  | t + 1 => (tabT l h ord t).set (nth ord (l.length - (t + 1))).toNat (bstP l (aftH h (nth l (nth ord (l.length - (t + 1))).toNat)) (tabT l h ord t) ⟨[nth ord (l.length - (t + 1))], (nth l (nth ord (l.length - (t + 1))).toNat).p⟩ (ord.drop (l.length - t)))
theorem tabT_len (l : List Off) (h : Hul) (ord : List Int) : ∀ t, (tabT l h ord t).length = l.length
  | 0 => by simp [tabT]
  | t + 1 => by rw [tabT, List.length_set, tabT_len l h ord t]
/-- A run's gain and length are small. -/
def RnB (t : Nat) (r : Rn) : Prop := 0 ≤ r.g ∧ r.g ≤ 1000000000 * (r.s.length : Int) ∧ r.s.length ≤ t
theorem RnB.mono {t u : Nat} {r : Rn} (h : RnB t r) (q : t ≤ u) : RnB u r := ⟨h.1, h.2.1, by have := h.2.2; omega⟩
theorem btr_ge {a : List Int} {ga : Int} {b : List Int} {gb : Int} (h : btr a ga b gb = true) : gb ≤ ga := by
  unfold btr at h
  rw [decide_eq_true_eq, or3_lt, cmp_lt, cmp_eq] at h
  omega
theorem bstK_bd {l : List Off} {h : Hul} {fr : List Rn} {now : Rn} {later : List Int} {a t : Nat} (hl : ∀ x ∈ l, okOff x = true) (hh : okHul h) (hf : ∀ i, i < fr.length → RnB t (nth fr i)) (hn : RnB a now) (hm : ∀ i ∈ later, 0 ≤ i ∧ i < (l.length : Int)) (hfl : fr.length = l.length) :
    ∀ k, k ≤ later.length → RnB (a + t) (bstK l h fr now later k)
  | 0, _ => hn.mono (by omega)
  | k + 1, hk => by
    have h1 := bstK_bd hl hh hf hn hm hfl k (by omega)
    unfold bstK bstStep
    split
    · rename_i q
      have hi := hm _ (nth_mem (xs := later) (i := k) (by omega))
      have h2 := hf (nth later k).toNat (by omega)
      have h3 := btr_ge q.2
      have h4 := farH_rng hh (hl _ (nth_mem (xs := l) (i := (nth later k).toNat) (by omega)))
      have h5 : 0 ≤ farH h (nth l (nth later k).toNat) * h.c := Int.mul_nonneg h4.1 hh.2.2.2.1
      obtain ⟨n1, n2, n3⟩ := hn
      obtain ⟨f1, f2, f3⟩ := h2
      refine ⟨Int.le_trans h1.1 h3, ?_, ?_⟩
      · simp only [nxR, List.length_append]; omega
      · simp only [nxR, List.length_append]; omega
    · exact h1
theorem tabT_bd {l : List Off} {h : Hul} {ord : List Int} (hl : ∀ x ∈ l, okOff x = true) (hh : okHul h) (ho : ∀ i ∈ ord, 0 ≤ i ∧ i < (l.length : Int)) (hol : ord.length = l.length) : ∀ t, t ≤ l.length → ∀ i, i < l.length → RnB t (nth (tabT l h ord t) i)
  | 0, _, i, hi => by
    rw [tabT, nth_eq (by simpa using hi)]; simp [RnB]
  | t + 1, ht, i, hi => by
    have ih := tabT_bd hl hh ho hol t (by omega)
    have hq := ho _ (nth_mem (xs := ord) (i := l.length - (t + 1)) (by omega))
    have hx := hl _ (nth_mem (xs := l) (i := (nth ord (l.length - (t + 1))).toNat) (by omega))
    unfold okOff at hx
    rw [decide_eq_true_eq] at hx
    have hb := bstK_bd (a := 1) (t := t) (now := ⟨[nth ord (l.length - (t + 1))], (nth l (nth ord (l.length - (t + 1))).toNat).p⟩) (h := aftH h (nth l (nth ord (l.length - (t + 1))).toNat)) (later := ord.drop (l.length - t)) hl ⟨hx.1.2, hx.2.1.2, hh.2.2.1, hh.2.2.2⟩ (fun i h => ih i (by rw [tabT_len] at h; exact h))
      ⟨hx.2.2.2.1, by simpa using hx.2.2.2.2, by simp⟩ (fun i h => ho i (List.mem_of_mem_drop h)) (tabT_len _ _ _ _) (ord.drop (l.length - t)).length (Nat.le_refl _)
    rw [tabT, nth_eq (by rw [List.length_set, tabT_len]; exact hi), List.getElem_set]
    split
    · exact hb.mono (by omega)
    · have := ih i hi
      rw [nth_eq (by rw [tabT_len]; exact hi)] at this
      exact this.mono (by omega)
end Go.Proofs.YtclinbbghnebaaaGreat
namespace Go.Proofs.YtclinbbghnebaaaGreat
open Go Go.RowKit Go.Proofs.Tryz
set_option maxRecDepth 10000

end Go.Proofs.YtclinbbghnebaaaGreat
namespace Go.Proofs.YtclinbbghnebaaaGreat
open Go Go.RowKit Go.Proofs.Tryz
set_option maxRecDepth 10000

/-- A run in memory. -/
structure HR where
  r : Rn
  ao : Option Addr
  g : Nat
  o : Nat
  cp : Nat
instance : Inhabited HR := ⟨⟨default, none, 0, 0, 0⟩⟩
def encHR (h : HR) : List Value := [.slice h.ao h.r.s.length h.cp, .int .i64 h.r.g]
theorem nth_mapR (hs : List HR) (i : Nat) : nth (hs.map HR.r) i = (nth hs i).r := by
  unfold nth
  rw [List.getD_eq_getElem?_getD, List.getD_eq_getElem?_getD, List.getElem?_map]
  cases hs[i]? <;> rfl
end Go.Proofs.YtclinbbghnebaaaGreat
namespace Go.Proofs.YtclinbbghnebaaaGreat
open Go Go.RowKit

/-- How a round ends. -/
def postY (B : Nat) (Z : World → Prop) (W : World) : Exit → Act → World → Prop
  | .normal, _, W' => KeepsFrom B W W' ∧ Z W'
  | _, _, _ => False

/-- What an iterator is given: at each place where Y holds it may hand out the element, and Z holds behind it; the loop's own blocks l and D are left alone. -/
structure Hands {γ : Type} (P : Program) (l D : Nat) (enc : γ → Value) (Y Z : γ → World → Prop) (R : World → Prop) : Prop where
  keep : ∀ {W W' : World} {S : Nat → Prop}, R W → Upd S W W' → ¬ S l → ¬ S D → R W'
  cell : ∀ {W : World} {b : Nat} {t : TypeId} {cs : List Value}, R W → Blk W b t cs → b ≠ l ∧ b ≠ D
  hand : ∀ x W, Y x W → R W → YieldAt Fence.wide 3 P l #[enc x] W fun e W' => e = .returned (.bool true) ∧ Z x W' ∧ R W'

/-- It stands where the loop's record is turned. -/
def Turned {β : Type} (l : Nat) (I : β → World → Prop) : Prop := ∀ x W W', I x W → (∃ r, W.heap[l]? = some (.loop r)) → Upd (· = l) W W' → I x W'
theorem Turned.and {β : Type} {l : Nat} {I J : β → World → Prop} (h : Turned l I) (k : Turned l J) : Turned l (fun x W => I x W ∧ J x W) := fun x W W' hi hl u => ⟨h x W W' hi.1 hl u, k x W W' hi.2 hl u⟩

section
variable {P : Program} {Q : Exit → Act → World → Prop} {N : Nat} {ds : List Deferred} {L : Slots} {w : World}

theorem c_rangeY {γ : Type} {go : Operand} {p : Nat} {assign body : Code} {gf : Nat} {lb : List Value} {enc : γ → Value} (ho : Own P gf)
    (hp : Nat.blt p N = true) (hg : ev L go = some (.func (.func gf) #[] lb.toArray))
    (Y Z : γ → World → Prop) (E : World → Prop) (hYo : Turned (w.heap.size + 1) Y) (hZo : Turned (w.heap.size + 1) Z) (hEo : Turned (w.heap.size + 1) (fun (_ : Unit) W => E W))
    (hiter : ∀ (l D : Nat) (R : World → Prop) (W : World), D = w.heap.size → l = w.heap.size + 1 → W.heap.size = w.heap.size + 2 → Ext w W → Hands P l D enc Y Z R → R W →
      CallsV P gf (.func (.yield l) #[] #[] :: lb) W (fun _ W' => E W' ∧ R W'))
    (La : γ → Slots)
    (hassign : ∀ (l : Nat) (x : γ) (W : World) (K : Act → World → Prop), Y x W → (∀ L', Sub (La x) L' → QK K N [] L' W) → WC (some l) P (Exit.then K (fun _ _ _ => False)) N [] assign ((p, enc x) :: L) W)
    (hbody : ∀ (l : Nat) (x : γ) (W : World), Y x W → WC (some l) P (postY w.heap.size (Z x) W) N [] body (La x) W)
    (hdone : ∀ (D : Nat) (W : World), w.heap.size ≤ D → E W → W.heap[D]? = some (.deferred (some [])) → QK (Q .normal) N (mark D :: ds) L W) :
    WC none P Q N ds (.rangeFunc go #[p] assign body) L w := by
  refine ⟨fun a ha => ?_⟩
  refine wpIn_rangeFunc (F := Fence.wide) (n := 3) fun fn hfn => ?_
  let rec_ : LoopState → Loop := fun st => { state := st, pending := none, fn, tmps := a.tmps, params := #[p], assign, body, defers := w.heap.size }
  have hsz : ((w.alloc (.deferred (some []))).alloc (.loop (rec_ .ready))).heap.size = w.heap.size + 2 := by simp
  have hD1 : ((w.alloc (.deferred (some []))).alloc (.loop (rec_ .ready))).heap[w.heap.size]? = some (.deferred (some [])) :=
    ((Upd.alloc (w.alloc (.deferred (some []))) (.loop (rec_ .ready))).block _ (by simp) id).trans (World.alloc_heap_new w _)
  have hL1 : ((w.alloc (.deferred (some []))).alloc (.loop (rec_ .ready))).heap[w.heap.size + 1]? = some (.loop (rec_ .ready)) := by
    have := World.alloc_heap_new (w.alloc (.deferred (some []))) (.loop (rec_ .ready)); rwa [World.size_alloc] at this
  have hE1 : Ext w ((w.alloc (.deferred (some []))).alloc (.loop (rec_ .ready))) := (Upd.alloc _ _).trans (Upd.alloc _ _)
  refine ⟨w.heap.size + 1, [{ target := .collected w.heap.size, args := #[] }], (w.alloc (.deferred (some []))).alloc (.loop (rec_ .ready)), { target := .fn (.func gf) lb.toArray, args := #[.func (.yield (w.heap.size + 1)) #[] #[]] }, (w.alloc (.deferred (some []))).alloc (.loop (rec_ .ready)), gf,
    #[.func (.yield (w.heap.size + 1)) #[] #[]] ++ lb.toArray, (w.alloc (.deferred (some []))).alloc (.loop (rec_ .ready)), ?_, ?_, fun _ _ => trivial, ?_, fun _ => by decide, ?_⟩
  · exact run_enterLoop_outer _ _ _ _ _
  · simp only [resolve, ha.ev hg]
    simp [go_sem]
  · simp [invoke, go_sem, ho.run]
  · have hH : Hands P (w.heap.size + 1) w.heap.size enc Y Z (fun W => W.heap[w.heap.size + 1]? = some (.loop (rec_ .ready)) ∧ W.heap[w.heap.size]? = some (.deferred (some []))) := by
      refine ⟨fun {W W' S} h u h1 h2 => ⟨(u.block _ (lt_of_block h.1) h1).trans h.1, (u.block _ (lt_of_block h.2) h2).trans h.2⟩, fun {W b t cs} h hb => ⟨fun e => ?_, fun e => ?_⟩, ?_⟩
      · subst e; unfold Blk at hb; rw [h.1] at hb; cases hb
      · subst e; unfold Blk at hb; rw [h.2] at hb; cases hb
      rintro x W hy ⟨hl, hd⟩
      have hyl := run_yield (P := P) (args := #[enc x]) hl rfl
      refine ⟨fn, _, assign, body, hyl, roundIn_of_wpIn (F := Fence.wide) (n := 3) hfn ?_⟩
      have hk : Kn N [] ((p, enc x) :: L) { tmps := (#[p].zip #[enc x]).foldl (fun t (p, v) => t.setIfInBounds p v) a.tmps, defers := [] } := by
        have h1 : Kn N [] L { a with defers := [] } := ⟨ha.size, rfl, ha.get⟩
        have h2 := h1.put (enc x) hp
        refine ⟨by simpa [Act.put] using h2.size, rfl, fun k v hv => ?_⟩
        have := h2.get k v hv
        simpa [Act.put] using this
      refine hassign (w.heap.size + 1) x W _ hy (fun L' hs => ⟨fun a' ha' => ?_⟩) _ hk
      have hlt := lt_of_block hl
      refine ⟨_, run_beginRound hl rfl, ?_⟩
      have hl2 : (W.putObj (w.heap.size + 1) (.loop { rec_ .ready with state := .busy })).heap[w.heap.size + 1]? = some (.loop { rec_ .ready with state := .busy }) := World.putObj_heap_same hlt
      have hd2 : (W.putObj (w.heap.size + 1) (.loop { rec_ .ready with state := .busy })).heap[w.heap.size]? = some (.deferred (some [])) := (World.putObj_heap_other (by omega)).trans hd
      refine wpIn_mono (hbody (w.heap.size + 1) x _ (hYo _ _ _ hy ⟨_, hl⟩ (Upd.putObj _ _ _)) a' (ha'.sub hs)) ?_
      rintro e a3 W3 hp3
      cases e with
      | normal =>
        obtain ⟨hk3, hz⟩ := hp3
        have hl3 := hk3.same _ _ (by omega) hl2 rfl
        have hd3 := hk3.same _ _ (Nat.le_refl _) hd2 rfl
        exact ⟨_, _, run_endRound none hl3, rfl, hZo _ _ _ hz ⟨_, hl3⟩ (Upd.putObj _ _ _), World.putObj_heap_same (lt_of_block hl3), (World.putObj_heap_other (by omega)).trans hd3⟩
      | ret => exact hp3.elim
      | exit id => exact hp3.elim
      | goto t => exact hp3.elim
      | panic ch => exact hp3.elim
      | outgrown => exact hp3.elim
    have hc := hiter (w.heap.size + 1) w.heap.size _ _ rfl rfl hsz hE1 hH ⟨hL1, hD1⟩
    have e0 : (#[Value.func (.yield (w.heap.size + 1)) #[] #[]] ++ lb.toArray : Array Value) = (Value.func (.yield (w.heap.size + 1)) #[] #[] :: lb).toArray := by simp
    rw [e0]
    refine callsIn_wide.2 (Calls.mono hc ?_)
    rintro e W2 ⟨v, rfl, hE, hl, hd⟩
    refine ⟨none, _, run_endLoop hl (by simp [rec_]), ?_⟩
    refine hdone w.heap.size _ (Nat.le_refl _) (hEo () _ _ hE ⟨_, hl⟩ (Upd.putObj _ _ _)) ((World.putObj_heap_other (by omega)).trans hd) _ ⟨ha.size, ?_, ha.get⟩
    simp [ha.defers, mark]
end

theorem Blk.notLoop {w : World} {b l : Nat} {t : TypeId} {cs : List Value} (h : Blk w b t cs) (hl : ∃ r, w.heap[l]? = some (.loop r)) : b ≠ l := fun e => by
  subst e; obtain ⟨r, hl⟩ := hl; unfold Blk at h; rw [hl] at h; cases h
theorem Sl.notLoop {α : Type} [Inhabited α] {enc : α → List Value} {k : Nat} (hk : ∀ x, 0 < (enc x).length) {w : World} {ao : Option Addr} {b o l : Nat} {xs : List α} (h : Sl enc k w ao b o xs) (hl : ∃ r, w.heap[l]? = some (.loop r)) (hp : 0 < xs.length) : b ≠ l := fun e => by
  subst e; obtain ⟨r, hl⟩ := hl
  have h1 := h.at_ 0 hp 0 _ (List.getElem?_eq_getElem (hk _))
  simp [World.cell?, hl] at h1
end Go.Proofs.YtclinbbghnebaaaGreat
namespace Go.Proofs.YtclinbbghnebaaaGreat
open Go Go.RowKit

/-- What an iterator is given: at each place where Y holds it may hand out the element, and Z holds behind it; the loop's own blocks l and D are left alone. -/
structure Hands2 {γ : Type} (P : Program) (l D : Nat) (enc enc' : γ → Value) (Y Z : γ → World → Prop) (R : World → Prop) : Prop where
  keep : ∀ {W W' : World} {S : Nat → Prop}, R W → Upd S W W' → ¬ S l → ¬ S D → R W'
  cell : ∀ {W : World} {b : Nat} {t : TypeId} {cs : List Value}, R W → Blk W b t cs → b ≠ l ∧ b ≠ D
  hand : ∀ x W, Y x W → R W → YieldAt Fence.wide 3 P l #[enc x, enc' x] W fun e W' => e = .returned (.bool true) ∧ Z x W' ∧ R W'

section
variable {P : Program} {Q : Exit → Act → World → Prop} {N : Nat} {ds : List Deferred} {L : Slots} {w : World}

end
end Go.Proofs.YtclinbbghnebaaaGreat
namespace Go.Proofs.YtclinbbghnebaaaGreat
open Go Go.RowKit
section
variable {rd : Option Nat} {P : Program} {ops : Array Oper} {Q : Exit → Act → World → Prop} {N : Nat} {ds : List Deferred} {rest : List Oper} {L : Slots} {w : World}
variable {d : Nat} {ty : TypeId} {pos : String} {aft : Array Edge} {g : Option (Nat × Bool)}
end
end Go.Proofs.YtclinbbghnebaaaGreat
namespace Go.Proofs.YtclinbbghnebaaaGreat
open Go Go.RowKit

/-- Of what lay in w only the marks' blocks may read otherwise. -/
abbrev OffMarks (ds : List Deferred) (w w' : World) : Prop := Upd (fun i => ∃ d ∈ ds, d = mark i) w w'
theorem leavesInM_marksC {P : Program} {fn : Func} {tmps : Array Value} {R : Value → World → Prop} {base : Nat} {v : Value} : ∀ (ds : List Deferred) (w : World), (∀ w', OffMarks ds w w' → (results fn tmps).run P w' = .ok v w') → Marks base ds w → (∀ w', Upd (fun i => base ≤ i) w w' → OffMarks ds w w' → R v w') →
    LeavesInM (rnd none) 3 P fn tmps (fun e w' => ∃ v, e = .returned v ∧ R v w') ds .returning w
  | [], w, hr, _, hR => ⟨v, hr w (Upd.refl _ _), v, rfl, hR w (Upd.refl _ _) (Upd.refl _ _)⟩
  | d :: ds, w, hr, h, hR => by
    obtain ⟨⟨D, rfl, h2, h3, h4⟩, h5⟩ := h
    refine ⟨by simp, .inl ⟨D, _, rfl, run_takeDeferred h3, ?_⟩⟩
    have u := Upd.putObj w D (.deferred none)
    have hm : Marks base ds (w.putObj D (.deferred none)) := h5.keepLow u h4 (fun k hk => by omega)
    have uo : ∀ {w'}, OffMarks ds (w.putObj D (.deferred none)) w' → OffMarks (mark D :: ds) w w' := fun {w'} h => (u.mono (fun k hk => ⟨mark D, by simp, by subst hk; rfl⟩)).trans (h.mono (fun k ⟨d, h1, h2⟩ => ⟨d, by simp [h1], h2⟩))
    exact leavesInM_marksC ds _ (fun w' h => hr w' (uo h)) hm (fun w' u' h => hR w' ((u.mono (fun k hk => by omega)).trans u') (uo h))
theorem Marks.notCells {base : Nat} {b : Nat} {c : Array Value} {t : TypeId} {f : Nat × Nat} : ∀ {ds : List Deferred} {w : World}, Marks base ds w → w.heap[b]? = some (.cells c t f) → ¬ ∃ d ∈ ds, d = mark b
  | [], _, _, _, h => by obtain ⟨_, h, _⟩ := h; cases h
  | d :: ds, w, h, hb, hq => by
    obtain ⟨⟨D, h1, h2, h3, h4⟩, h5⟩ := h
    obtain ⟨d', hd, e⟩ := hq
    rcases List.mem_cons.1 hd with rfl | hd
    · rw [h1] at e
      injection e with e
      injection e with e
      subst e
      rw [h3] at hb
      cases hb
    · exact h5.notCells hb ⟨d', hd, e⟩
theorem Marks.notBlk {base : Nat} {b : Nat} {t : TypeId} {cs : List Value} {ds : List Deferred} {w : World} (h : Marks base ds w) (hb : Blk w b t cs) : ¬ ∃ d ∈ ds, d = mark b := h.notCells hb
theorem Marks.notAcc {α : Type} {enc : α → List Value} {k : Nat} {e : TypeId} {base base' : Nat} {ds : List Deferred} {w : World} {ao : Option Addr} {g cap : Nat} {xs : List α} (h : Marks base ds w) (ha : Acc enc k e base' w ao g cap xs) (hp : 0 < xs.length) : ¬ ∃ d ∈ ds, d = mark g := by
  rcases ha.at_ with ⟨_, h1, _⟩ | ⟨_, _, cur, h3, _⟩
  · subst h1; simp at hp
  · exact h.notCells h3
/-- A result, read behind the marks. -/
def ResM (P : Program) (ds : List Deferred) (w : World) (L : Slots) (r : ResultVar) (v : Value) : Prop := ∀ w', OffMarks ds w w' → Res P w' L r v
theorem ResM.tmp {P : Program} {ds : List Deferred} {w : World} {L : Slots} {t : Nat} {v : Value} (h : look t L = some v) : ResM P ds w L (.tmp t) v := fun _ _ => h
theorem ResM.cell {P : Program} {ds : List Deferred} {w : World} {L : Slots} {s t b off base : Nat} {t' : TypeId} {cs : List Value} {v : Value} (hm : Marks base ds w) (hl : look s L = some (.pointer (some ⟨b, off, none⟩))) (ha : ∀ w, (isAgg t).run P w = .ok false w) (hb : Blk w b t' cs) (hv : cs[off]? = some v) : ResM P ds w L (.cell s t) v :=
  fun _w' u => ⟨b, off, hl, run_loadVar1 ha ((hb.keep u (hm.notBlk hb)).get hv)⟩

section steps
variable {P : Program} {N : Nat} {ds : List Deferred} {L : Slots} {w : World}
theorem f_retMc2 {R : Value → World → Prop} {fn : Func} {r1 r2 : ResultVar} {v1 v2 : Value} {base : Nat} (hf : fn.results = #[r1, r2]) (h1 : ResM P ds w L r1 v1) (h2 : ResM P ds w L r2 v2) (hm : Marks base ds w) (hR : ∀ w', Upd (fun i => base ≤ i) w w' → OffMarks ds w w' → R (.tuple #[v1, v2]) w') :
    QK (bodyPostM (rnd none) 3 P fn (fun e w' => ∃ v, e = .returned v ∧ R v w') .ret) N ds L w := by
  refine ⟨fun a ha => ?_⟩
  show LeavesInM (rnd none) 3 P fn a.tmps _ a.defers .returning w
  rw [ha.defers]
  refine leavesInM_marksC ds w (fun w' u => ?_) hm hR
  have e1 := Res.run (h1 w' u) ha
  have e2 := Res.run (h2 w' u) ha
  rw [results_of, hf]
  simp [e1, e2]
theorem f_retMc0 {R : Value → World → Prop} {fn : Func} {base : Nat} (hf : fn.results = #[]) (hm : Marks base ds w) (hR : ∀ w', Upd (fun i => base ≤ i) w w' → OffMarks ds w w' → R (.tuple #[]) w') :
    QK (bodyPostM (rnd none) 3 P fn (fun e w' => ∃ v, e = .returned v ∧ R v w') .ret) N ds L w := by
  refine ⟨fun a ha => ?_⟩
  show LeavesInM (rnd none) 3 P fn a.tmps _ a.defers .returning w
  rw [ha.defers]
  refine leavesInM_marksC ds w (fun w' u => ?_) hm hR
  rw [results_of, hf]
  simp
theorem f_retMc1 {R : Value → World → Prop} {fn : Func} {r1 : ResultVar} {v : Value} {base : Nat} (hf : fn.results = #[r1]) (h1 : ResM P ds w L r1 v) (hm : Marks base ds w) (hR : ∀ w', Upd (fun i => base ≤ i) w w' → OffMarks ds w w' → R v w') :
    QK (bodyPostM (rnd none) 3 P fn (fun e w' => ∃ v, e = .returned v ∧ R v w') .ret) N ds L w := by
  refine ⟨fun a ha => ?_⟩
  show LeavesInM (rnd none) 3 P fn a.tmps _ a.defers .returning w
  rw [ha.defers]
  refine leavesInM_marksC ds w (fun w' u => ?_) hm hR
  have e1 := Res.run (h1 w' u) ha
  rw [results_of, hf]
  simp [e1]
end steps
end Go.Proofs.YtclinbbghnebaaaGreat
namespace Go.Proofs.YtclinbbghnebaaaGreat
open Go Go.RowKit Go.Proofs.Tryz
set_option maxRecDepth 10000

/-- An element that is handed out: its place, and the world then. -/
structure BkE where
  i : Nat
  w : World
/-- What the loop backwards over the order has written, from the k-th offer on. -/
def BstC (l : List Off) (h : Hul) (gF : Nat) (wR : World) (k : Nat) (W : World) : Prop := Upd (fun i => i = gF ∨ i = wR.heap.size + 1) wR W ∧ ∃ hs : List HR, Acc encHR 2 148 gF W (some ⟨gF, 0, none⟩) gF l.length hs ∧ hs.map HR.r = tabT l h (ordP l) (l.length - k) ∧ ∀ x ∈ hs, Sl encI 1 W x.ao x.g x.o x.r.s ∧ (0 < x.r.s.length → x.g ≠ gF)
theorem BstC.ext {l : List Off} {h : Hul} {gF : Nat} {wR : World} (k : Nat) (W W' : World) (q : BstC l h gF wR k W) (u : Ext W W') : BstC l h gF wR k W' := by
  obtain ⟨h0, hs, h1, h2, h3⟩ := q
  exact ⟨h0.nx u, hs, h1.keep u (fun _ h => h), h2, fun x hx => ⟨(h3 x hx).1.keep u (fun _ h => h), (h3 x hx).2⟩⟩
theorem BstC.turned {l : List Off} {h : Hul} {gF : Nat} {wR : World} (hg : gF < wR.heap.size) (k : Nat) (W W' : World) (q : BstC l h gF wR k W) (hl : ∃ r, W.heap[wR.heap.size + 1]? = some (.loop r)) (u : Upd (· = wR.heap.size + 1) W W') : BstC l h gF wR k W' := by
  obtain ⟨h0, hs, h1, h2, h3⟩ := q
  exact ⟨h0.trans (u.mono fun i e => .inr e), hs, h1.keep u (fun _ e => by omega), h2, fun x hx => ⟨(h3 x hx).1.keep u (fun hp => Sl.notLoop (enc := encI) (fun _ => Nat.one_pos) (h3 x hx).1 hl hp), (h3 x hx).2⟩⟩
def BstY (l : List Off) (h : Hul) (gF : Nat) (wR : World) (x : BkE) (_ : Unit) (W : World) : Prop := x.i < l.length ∧ BstC l h gF wR (x.i + 1) W ∧ Upd (fun _ => True) x.w W
theorem BstY.turned {l : List Off} {h : Hul} {gF : Nat} {wR : World} (hg : gF < wR.heap.size) (d : Unit) : Turned (wR.heap.size + 1) (fun x W => BstY l h gF wR x d W) := fun _x _W _W' q hl u =>
  ⟨q.1, BstC.turned hg _ _ _ q.2.1 hl u, q.2.2.trans (u.mono fun _ _ => trivial)⟩
theorem BstC.bd {l : List Off} {h : Hul} {hs : List HR} {t : Nat} (hok : ∀ x ∈ l, okOff x = true) (hh : okHul h) (hll : l.length ≤ 12) (ht : t ≤ l.length) (hm : hs.map HR.r = tabT l h (ordP l) t) : hs.length = l.length ∧ ∀ q ∈ hs, RnB 12 q.r := by
  have e : hs.length = l.length := by rw [← tabT_len l h (ordP l) t, ← hm, List.length_map]
  refine ⟨e, fun q hq => ?_⟩
  obtain ⟨i, hi, rfl⟩ := List.mem_iff_getElem.1 hq
  have h8 := tabT_bd hok hh (fun i h => ordP_mem h) (ordP_len l) t ht i (by omega)
  rw [← hm, nth_mapR, nth_eq hi] at h8
  exact h8.mono (by omega)
end Go.Proofs.YtclinbbghnebaaaGreat
