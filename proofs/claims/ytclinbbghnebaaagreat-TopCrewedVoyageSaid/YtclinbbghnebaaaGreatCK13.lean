/-
  Part 13 of the proof: contracts and plain laws. Conditions: none.
-/
import Derived.Test.YtclinbbghnebaaaGreatCK12
namespace Go.Proofs.YtclinbbghnebaaaGreat
open Go Go.RowKit Go.Proofs.Tryz
set_option maxRecDepth 10000

theorem teams1_c (r : Rul) (x : Leg) (pb c : Nat) (am : Option Addr) (mb cm n B : Nat) : ∀ need, TeamsQ Tryz.prog r x pb c am mb cm n B need := by
  intro need
  induction need using Nat.strongRecOn with
  | _ need ih => exact fun F l D C Cf R Rf φ b7 b5 b6 b4 i0 nums an gn cn pl ms w0 hp => teams1_s r x pb c am mb cm n B need F l D C Cf R Rf φ b7 b5 b6 b4 i0 nums an gn cn pl ms w0 hp ih
/-- A row of a plan in memory. -/
structure HRK where
  xs : List Int
  ao : Option Addr
  g : Nat
  cap : Nat
instance : Inhabited HRK := ⟨⟨default, default, default, default⟩⟩
def encHRK (h : HRK) : List Value := [.slice h.ao h.xs.length h.cap]
def HT.hr (x : HT) : HRK := ⟨x.nums, x.ao, x.g, x.cap⟩
/-- A plan lies in memory. -/
structure PlanM (F : Nat → Prop) (pb : Nat) (w : World) (ap : Option Addr) (gp cp : Nat) (rows : List HRK) : Prop where
  acc : Acc encHRK 1 38 pb w ap gp cp rows
  nf : pb ≤ gp → ¬ F gp
  mem : ∀ h ∈ rows, Acc encI 1 3 pb w h.ao h.g h.cap h.xs
  mf : ∀ h ∈ rows, pb ≤ h.g → ¬ F h.g
theorem PlanM.upd {F S : Nat → Prop} {pb : Nat} {w w' : World} {ap : Option Addr} {gp cp : Nat} {rows : List HRK} (h : PlanM F pb w ap gp cp rows) (u : Upd S w w') (h1 : pb ≤ gp → ¬ S gp) (h2 : ∀ q ∈ rows, pb ≤ q.g → ¬ S q.g) : PlanM F pb w' ap gp cp rows :=
  ⟨h.acc.keep u h1, h.nf, fun q hq => (h.mem q hq).keep u (h2 q hq), h.mf⟩
theorem PlanM.ext {F : Nat → Prop} {pb : Nat} {w w' : World} {ap : Option Addr} {gp cp : Nat} {rows : List HRK} (h : PlanM F pb w ap gp cp rows) (u : Ext w w') : PlanM F pb w' ap gp cp rows := h.upd u (fun _ q => q) (fun _ _ _ q => q)
theorem PlanM.bent {F : Nat → Prop} {pb : Nat} {w w' : World} {S : Nat → Prop} {ap : Option Addr} {gp cp : Nat} {rows : List HRK} (h : PlanM F pb w ap gp cp rows) (u : Upd S w w') (hS : ∀ i, S i → ∀ c t f, w.heap[i]? ≠ some (.cells c t f)) : PlanM F pb w' ap gp cp rows := by
  have key : ∀ {α : Type} {enc : α → List Value} {k e : Nat} {ao : Option Addr} {g cap : Nat} {xs : List α}, Acc enc k e pb w ao g cap xs → pb ≤ g → ¬ S g := fun ha hb hs => by
    rcases ha.at_ with ⟨_, _, _, h1⟩ | ⟨_, _, cur, h1, _⟩
    · omega
    · exact hS _ hs _ _ _ h1
  exact h.upd u (key h.acc) (fun q hq => key (h.mem q hq))
/-- The first team with which the rest has a plan. -/
def tryF (f : Tm → Nat → Option (List (List Int)) × Nat) : List Tm → Nat → Option (List (List Int)) × Nat
  | [], u => (none, u)
  | t :: ts, u => match f t u with
    | (some p, u') => (some (t.nums :: p), u')
    | (none, u') => tryF f ts u'
theorem tryF_no {f : Tm → Nat → Option (List (List Int)) × Nat} {t : Tm} {ts : List Tm} : ∀ {pre : List Tm} {u u1 : Nat}, tryF f pre u = (none, u1) → tryF f (pre ++ t :: ts) u = tryF f (t :: ts) u1
  | [], u, u1, h => by simp only [tryF, Prod.mk.injEq, true_and] at h; rw [h]; rfl
  | p :: pre, u, u1, h => by
    rw [List.cons_append, tryF]
    rw [tryF] at h
    split at h
    · cases h
    · exact tryF_no h
/-- The smallest plan, and for how many legs there was one. -/
def asgP (r : Rul) : List Leg → List Mb → Nat → Nat → Option (List (List Int)) × Nat
  | [], _, k, u => (some [], max u k)
  | x :: xs, ms, k, u => tryF (fun t u => asgP r xs t.ms (k + 1) u) (teamsP r x x.h.toNat 0 [] 0 ms) (max u k)
def FA (mb pb sb : Nat) (i : Nat) : Prop := MB mb pb i ∨ i = sb
theorem Acc.blkT {α : Type} {enc : α → List Value} {k : Nat} {e : TypeId} {base : Nat} {w : World} {ao : Option Addr} {g cap : Nat} {xs : List α} (h : Acc enc k e base w ao g cap xs) (hb : base ≤ g) : ∃ cs, Blk w g e cs := by
  rcases h.at_ with ⟨_, _, _, h1⟩ | ⟨_, _, cur, h1, _⟩
  · omega
  · exact ⟨cur.toList, by simpa [Blk] using h1⟩
theorem Acc.sub0 {α : Type} {enc : α → List Value} {k k' : Nat} {e : TypeId} {base : Nat} {w : World} {ao : Option Addr} {g cap : Nat} {xs : List α} (h : Acc enc k e base w ao g cap xs) (hp : 0 < xs.length) : subAddr ao cap 0 k' = ao := by
  rcases h.at_ with ⟨_, h1, _⟩ | ⟨h1, _, cur, _, h2, _⟩
  · rw [h1] at hp; cases hp
  · rw [h1, subAddr_some (by omega)]; simp
theorem Acc.pop {α : Type} {enc : α → List Value} {k : Nat} {e : TypeId} {base : Nat} {w : World} {ao : Option Addr} {g cap : Nat} {xs : List α} {y : α} (hk : ∀ x, (enc x).length = k) (h : Acc enc k e base w ao g cap (xs ++ [y])) : Acc enc k e base w ao g cap xs := by
  refine ⟨h.lt, ?_⟩
  rcases h.at_ with ⟨_, h1, _⟩ | ⟨h1, h2, cur, h3, h4, h5, h6, h7⟩
  · simp at h1
  · refine .inr ⟨h1, h2, cur, h3, by simp at h4; omega, h5, h6, ?_⟩
    have h8 : (xs ++ [y]).length * k = xs.length * k + k := by simp [Nat.add_mul]
    rw [h8] at h7
    have h9 := congrArg (List.take (xs.length * k)) h7
    rw [List.take_take, Nat.min_eq_left (by omega), List.flatMap_append] at h9
    rw [h9, List.take_append_of_le_length (by rw [flatMap_len hk]; omega), List.take_of_length_le (by rw [flatMap_len hk]; omega)]
theorem RowC.tpS {F : Nat → Prop} {pb c sb : Nat} {r : Rul} {am : Option Addr} {mb cm n : Nat} {ms : List HM} {w w' : World} (h : RowC F pb c r am mb cm n ms w) (hsm : pb ≤ mb → mb ≠ sb) (hc : c ≠ sb) (hF : F sb) (hb : pb ≤ sb) (u : Upd (TP (fun i => i = sb) pb w) w w') : RowC F pb c r am mb cm n ms w' :=
  ⟨⟨h.row.acc.keep u (h.row.acc.notTP (fun q => hsm q) (by decide)), fun m hm => by
    have q := h.row.mem m hm
    exact q.upd u (fun hp hq => by have h1 := q.hb hp; exact hq.elim (fun e => by omega) (fun e => by omega)) (q.ht.notTP (fun hb e => q.hn hb (e ▸ hF)) (by decide))⟩, h.blk.keep u (TP.not hc h.blk (by decide)), h.len⟩
theorem Blk.neT {w : World} {a b : Nat} {t t' : TypeId} {cs cs' : List Value} (h : Blk w a t cs) (h' : Blk w b t' cs') (ht : t ≠ t') : a ≠ b := fun e => by
  subst e; unfold Blk at h h'; rw [h] at h'; injection h' with h'; injection h' with _ h'; exact ht h'
theorem RowC.up6 {F : Nat → Prop} {pb c t6 : Nat} {r : Rul} {am : Option Addr} {mb cm n : Nat} {ms : List HM} {w w' : World} {cs : List Value} (h : RowC F pb c r am mb cm n ms w) (h6 : Blk w t6 4 cs) (hb : pb ≤ t6) (u : Upd (· = t6) w w') : RowC F pb c r am mb cm n ms w' :=
  ⟨⟨h.row.acc.keep u (h.row.acc.neBlk h6 (by decide)), fun m hm => have q := h.row.mem m hm; q.upd u (fun hp e => by have := q.hb hp; omega) (q.ht.neBlk h6 (by decide))⟩, h.blk.keep u (h.blk.neT h6 (by decide)), h.len⟩
theorem PlanM.up6 {F : Nat → Prop} {pb t6 : Nat} {w w' : World} {ap : Option Addr} {gp cp : Nat} {rows : List HRK} {cs : List Value} (h : PlanM F pb w ap gp cp rows) (h6 : Blk w t6 4 cs) (u : Upd (· = t6) w w') : PlanM F pb w' ap gp cp rows :=
  h.upd u (h.acc.neBlk h6 (by decide)) (fun q hq => (h.mem q hq).neBlk h6 (by decide))
theorem PlanM.push {F : Nat → Prop} {pb sb : Nat} {w w' : World} {ap ap' : Option Addr} {gp cp gp' cp' : Nat} {rows : List HRK} {y : HRK} (h : PlanM F pb w ap gp cp rows) (hs : F sb) (u : Upd (TP (fun i => i = sb) pb w) w w') (ha : Acc encHRK 1 38 pb w' ap' gp' cp' (rows ++ [y])) (hg : pb ≤ gp' → ¬ F gp') (hy : Acc encI 1 3 pb w y.ao y.g y.cap y.xs) (hyf : pb ≤ y.g → ¬ F y.g) : PlanM F pb w' ap' gp' cp' (rows ++ [y]) := by
  refine ⟨ha, hg, fun q hq => ?_, fun q hq => ?_⟩
  · rcases List.mem_append.1 hq with e | e
    · exact (h.mem q e).keep u ((h.mem q e).notTP (fun hb e2 => h.mf q e hb (e2 ▸ hs)) (by decide))
    · rw [List.mem_singleton.1 e]; exact hy.keep u (hy.notTP (fun hb e2 => hyf hb (e2 ▸ hs)) (by decide))
  · rcases List.mem_append.1 hq with e | e
    · exact h.mf q e
    · rw [List.mem_singleton.1 e]; exact hyf
theorem PlanM.pop {F : Nat → Prop} {pb : Nat} {w : World} {ap : Option Addr} {gp cp : Nat} {rows : List HRK} {y : HRK} (h : PlanM F pb w ap gp cp (rows ++ [y])) : PlanM F pb w ap gp cp rows := ⟨h.acc.pop (fun _ => rfl), h.nf, fun q hq => h.mem q (List.mem_append_left _ hq), fun q hq => h.mf q (List.mem_append_left _ hq)⟩
theorem TP.cellsB6 {F : Nat → Prop} {pb B t6 : Nat} {w : World} {t : TypeId} {cs : List Value} (hF : ∀ i, F i → i < B) (h6 : Blk w t6 t cs) : ∀ k, B ≤ k → k < w.heap.size → TP (FX F t6) pb w k → ∃ cur t f, w.heap[k]? = some (.cells cur t f) := fun k hB _ h => by
  rcases h with (h | h) | ⟨_, cs, h⟩
  · have := hF k h; omega
  · subst h; exact ⟨_, _, _, h6⟩
  · exact ⟨_, _, _, h⟩
theorem RowC.f0 {F : Nat → Prop} {pb c : Nat} {r : Rul} {am : Option Addr} {mb cm n : Nat} {ms : List HM} {w : World} (h : RowC F pb c r am mb cm n ms w) : RowC F0 pb c r am mb cm n ms w := h.mono (fun _ _ _ q => q.elim)
theorem tryF_step {f : Tm → Nat → Option (List (List Int)) × Nat} {t : Tm} {pre : List Tm} {u u1 u2 : Nat} (h : tryF f pre u = (none, u1)) (h2 : f t u1 = (none, u2)) : tryF f (pre ++ [t]) u = (none, u2) := by rw [tryF_no h, tryF, h2]; rfl
theorem tryF_hit {f : Tm → Nat → Option (List (List Int)) × Nat} {t : Tm} {pre post : List Tm} {u u1 u2 : Nat} {p : List (List Int)} (h : tryF f pre u = (none, u1)) (h2 : f t u1 = (some p, u2)) : tryF f (pre ++ t :: post) u = (some (t.nums :: p), u2) := by rw [tryF_no h, tryF, h2]
/-- What holds ahead of assign. -/
structure AsgH (r : Rul) (pb c : Nat) (am : Option Addr) (mb cm n sb : Nat) (xs : List Leg) (ax : Option Addr) (bx ox cx : Nat) (ms : List HM) (rows : List HRK) (ap : Option Addr) (gp cp up : Nat) (w0 : World) : Prop where
  hr : okRul r = true
  hxs : ∀ x ∈ xs, okLeg x = true
  hB : ∀ m ∈ ms, m.ts.length + 3 * xs.length ≤ 90
  legs : Sl encLeg 7 w0 ax bx ox xs
  hcx : xs.length ≤ cx
  hbx : 0 < xs.length → ¬ FA mb pb sb bx ∧ (pb ≤ bx → ∃ t cs, t ≠ 38 ∧ Blk w0 bx t cs)
  sblk : Blk w0 sb 164 [.slice ap rows.length cp, .int .i64 (up : Int)]
  plan : PlanM (FA mb pb sb) pb w0 ap gp cp rows
  row : RowC (FA mb pb sb) pb c r am mb cm n ms w0
  hcm : pb ≤ mb → c ≠ mb
  hcs : c ≠ sb
  hsb : pb ≤ sb
  hsm : pb ≤ mb → mb ≠ sb
  hn : n ≤ 6
  hrl : rows.length + xs.length ≤ 30
  hpb : 0 < pb ∧ pb ≤ w0.heap.size
/-- What holds behind it. -/
def AsgR (r : Rul) (pb c : Nat) (am : Option Addr) (mb cm n sb : Nat) (ms : List HM) (rows : List HRK) (a : Option (List (List Int)) × Nat) (w0 : World) (v : Value) (w' : World) : Prop :=
  v = .bool a.1.isSome ∧ (∃ rows' ap' gp' cp', Blk w' sb 164 [.slice ap' (List.length rows') cp', .int .i64 (a.2 : Int)] ∧ PlanM (FA mb pb sb) pb w' ap' gp' cp' rows' ∧ (a.1 = none → rows' = rows) ∧ (∀ p, a.1 = some p → rows'.map HRK.xs = rows.map HRK.xs ++ p)) ∧ RowC (FA mb pb sb) pb c r am mb cm n ms w' ∧ Upd (TP (FA mb pb sb) pb w0) w0 w'
def AsgQ (P : Program) (xs : List Leg) : Prop := ∀ r pb c am mb cm n sb ax bx ox cx ms rows ap gp cp up w0, AsgH r pb c am mb cm n sb xs ax bx ox cx ms rows ap gp cp up w0 →
  CallsV P 57 [.pointer (some ⟨c, 0, none⟩), .pointer (some ⟨sb, 0, none⟩), .slice ax xs.length cx] w0 (fun v w' => AsgR r pb c am mb cm n sb ms rows (asgP r xs (ms.map HM.mb) rows.length up) w0 v w')
def TQ (F : Nat → Prop) (pb : Nat) (w : World) (i : Nat) : Prop := TP F pb w i ∨ w.heap.size ≤ i
theorem TQ.of {F : Nat → Prop} {pb : Nat} {w w' : World} (u : Ext w w') {i : Nat} (h : TP F pb w' i) : TQ F pb w i := (Nat.lt_or_ge i w.heap.size).elim (fun hi => .inl (TP.backE u hi h)) .inr
theorem TQ.not {F : Nat → Prop} {pb b : Nat} {w w' : World} {t : TypeId} {cs : List Value} (u : Ext w w') (hF : ¬ F b) (hb : b < w.heap.size) (h : Blk w' b t cs) (ht : t ≠ 38) : ¬ TQ F pb w b := by
  rintro ((q | ⟨_, cs', q⟩) | q)
  · exact hF q
  · exact absurd (show b = b from rfl) (h.neT (q.kx u) ht)
  · omega
def AsgT (r : Rul) (pb c : Nat) (am : Option Addr) (mb cm n sb : Nat) (ms : List HM) (rows : List HRK) (a : Option (List (List Int)) × Nat) (wr w0 : World) (v : Value) (w' : World) : Prop :=
  v = .bool a.1.isSome ∧ (∃ rows' ap' gp' cp', Blk w' sb 164 [.slice ap' (List.length rows') cp', .int .i64 (a.2 : Int)] ∧ PlanM (FA mb pb sb) pb w' ap' gp' cp' rows' ∧ (a.1 = none → rows' = rows) ∧ (∀ p, a.1 = some p → rows'.map HRK.xs = rows.map HRK.xs ++ p)) ∧ RowC (FA mb pb sb) pb c r am mb cm n ms w' ∧ Upd (TQ (FA mb pb sb) pb wr) w0 w'
theorem AsgR.t {r : Rul} {pb c : Nat} {am : Option Addr} {mb cm n sb : Nat} {ms : List HM} {rows : List HRK} {a : Option (List (List Int)) × Nat} {wr w0 : World} {v : Value} {w' : World} (h : AsgR r pb c am mb cm n sb ms rows a w0 v w') (u : Ext wr w0) : AsgT r pb c am mb cm n sb ms rows a wr w0 v w' := ⟨h.1, h.2.1, h.2.2.1, h.2.2.2.mono (fun _ q => TQ.of u q)⟩
/-- assign's consumer of teams. -/
structure AC (F : Nat → Prop) (f : Tm → Nat → Option (List (List Int)) × Nat) (u0 mb pb sb t6 : Nat) (rows : List HRK) (wR : World) (pre : List Tm) (W : World) : Prop where
  ex : ∃ u ap gp cp, tryF f pre u0 = (none, u) ∧ Blk W sb 164 [.slice ap rows.length cp, .int .i64 (u : Int)] ∧ PlanM (FA mb pb sb) pb W ap gp cp rows
  b6 : Blk W t6 4 [.bool false]
  hu : Upd (TP F pb wR) wR W
structure AF (F : Nat → Prop) (f : Tm → Nat → Option (List (List Int)) × Nat) (u0 mb pb sb t6 : Nat) (rows : List HRK) (wR : World) (p : List Tm × Tm) (W : World) : Prop where
  ex : ∃ u1 u q rows' ap gp cp, tryF f p.1 u0 = (none, u1) ∧ f p.2 u1 = (some q, u) ∧ Blk W sb 164 [.slice ap (List.length rows') cp, .int .i64 (u : Int)] ∧ PlanM (FA mb pb sb) pb W ap gp cp rows' ∧ rows'.map HRK.xs = rows.map HRK.xs ++ p.2.nums :: q
  b6 : Blk W t6 4 [.bool true]
  hu : Upd (TP F pb wR) wR W
theorem AC.mb {F : Nat → Prop} {f : Tm → Nat → Option (List (List Int)) × Nat} {u0 mb pb sb t6 : Nat} {rows : List HRK} {wR : World} (hsm : pb ≤ mb → mb ≠ sb) (h6 : pb ≤ mb → mb ≠ t6) (hF : pb ≤ mb → F mb) (pre : List Tm) (W W' : World) (h : AC F f u0 mb pb sb t6 rows wR pre W) (u : Upd (MB mb pb) W W') : AC F f u0 mb pb sb t6 rows wR pre W' := by
  obtain ⟨v, ap, gp, cp, h1, h3, h4⟩ := h.ex
  exact ⟨⟨v, ap, gp, cp, h1, h3.keep u (fun q => hsm (q.1 ▸ q.2) q.1.symm), h4.upd u (fun hb q => h4.nf hb (.inl q)) (fun x hx hb q => h4.mf x hx hb (.inl q))⟩, h.b6.keep u (fun q => h6 (q.1 ▸ q.2) q.1.symm), h.hu.next u (fun i _ q => .inl (q.1 ▸ hF (q.1 ▸ q.2)))⟩
theorem AF.mb {F : Nat → Prop} {f : Tm → Nat → Option (List (List Int)) × Nat} {u0 mb pb sb t6 : Nat} {rows : List HRK} {wR : World} (hsm : pb ≤ mb → mb ≠ sb) (h6 : pb ≤ mb → mb ≠ t6) (hF : pb ≤ mb → F mb) (pre : List Tm × Tm) (W W' : World) (h : AF F f u0 mb pb sb t6 rows wR pre W) (u : Upd (MB mb pb) W W') : AF F f u0 mb pb sb t6 rows wR pre W' := by
  obtain ⟨u1, v, q, rows', ap, gp, cp, h1, h2, h3, h4, h5⟩ := h.ex
  exact ⟨⟨u1, v, q, rows', ap, gp, cp, h1, h2, h3.keep u (fun q => hsm (q.1 ▸ q.2) q.1.symm), h4.upd u (fun hb q => h4.nf hb (.inl q)) (fun x hx hb q => h4.mf x hx hb (.inl q)), h5⟩, h.b6.keep u (fun q => h6 (q.1 ▸ q.2) q.1.symm), h.hu.next u (fun i _ q => .inl (q.1 ▸ hF (q.1 ▸ q.2)))⟩
theorem AC.bent {F : Nat → Prop} {f : Tm → Nat → Option (List (List Int)) × Nat} {u0 mb pb sb t6 B : Nat} {rows : List HRK} {wR : World} (hB : wR.heap.size ≤ B) : Bent B (AC F f u0 mb pb sb t6 rows wR) := fun pre W W' S h u hS => by
  obtain ⟨v, ap, gp, cp, h1, h3, h4⟩ := h.ex
  exact ⟨⟨v, ap, gp, cp, h1, h3.keep u (fun q => (hS _ q).2 _ _ _ h3), h4.bent u (fun i hi => (hS i hi).2)⟩, h.b6.keep u (fun q => (hS _ q).2 _ _ _ h.b6), h.hu.next u (fun i hi q => by have := (hS i q).1; omega)⟩
theorem AF.bent {F : Nat → Prop} {f : Tm → Nat → Option (List (List Int)) × Nat} {u0 mb pb sb t6 B : Nat} {rows : List HRK} {wR : World} (hB : wR.heap.size ≤ B) : Bent B (AF F f u0 mb pb sb t6 rows wR) := fun pre W W' S h u hS => by
  obtain ⟨u1, v, q, rows', ap, gp, cp, h1, h2, h3, h4, h5⟩ := h.ex
  exact ⟨⟨u1, v, q, rows', ap, gp, cp, h1, h2, h3.keep u (fun q => (hS _ q).2 _ _ _ h3), h4.bent u (fun i hi => (hS i hi).2), h5⟩, h.b6.keep u (fun q => (hS _ q).2 _ _ _ h.b6), h.hu.next u (fun i hi q => by have := (hS i q).1; omega)⟩
theorem own57 : Own Tryz.prog 57 := ⟨Tryz.f57, func57, by kernel_rfl, by kernel_rfl⟩
set_option maxHeartbeats 4000000 in
theorem assign_s (r : Rul) (pb c : Nat) (am : Option Addr) (mb cm n sb : Nat) (xs : List Leg) (ax : Option Addr) (bx ox cx : Nat) (ms : List HM) (rows : List HRK) (ap : Option Addr) (gp cp up : Nat) (w0 : World) (hp : AsgH r pb c am mb cm n sb xs ax bx ox cx ms rows ap gp cp up w0) (ih : ∀ x0 xs0, xs = x0 :: xs0 → AsgQ Tryz.prog xs0) :
    CallsV Tryz.prog 57 [.pointer (some ⟨c, 0, none⟩), .pointer (some ⟨sb, 0, none⟩), .slice ax xs.length cx] w0 (fun v w' => AsgR r pb c am mb cm n sb ms rows (asgP r xs (ms.map HM.mb) rows.length up) w0 v w') := by
 have hpb := hp.hpb
 have hn6 := hp.hn
 have lsb := hp.sblk.lt
 have lc := hp.row.blk.lt
 have lmb := hp.row.row.acc.lt
 have lgp := hp.plan.acc.lt
 have hrl := hp.hrl
 have hsb := hp.hsb
 have hlx : xs.length ≤ 1000000 := by omega
 have hFsb : FA mb pb sb sb := .inr rfl
 have hFAl : ∀ i, FA mb pb sb i → pb ≤ i ∧ i < w0.heap.size := fun i h => h.elim (fun h => ⟨h.2, by have := h.1; omega⟩) (fun e => ⟨by omega, by omega⟩)
 have k1 := hp.sblk
 have k2 := hp.row.blk
 have Y0 := Sc.mk (Upd.refl (fun i => TP (FA mb pb sb) pb w0 i) w0)
 refine f_enterM (N := 61) func57 rfl rfl rfl (q_of ?_)
 refine go ?_
 refine x_b fun bk4 w5 ebk4 sbk4 B6 u7 => ?_
 try have Y8 := Sc.mk (Y0.u.nx u7)
 refine x_b fun bk9 w10 ebk9 sbk9 B11 u12 => ?_
 try have Y13 := Sc.mk (Y8.u.nx u12)
 refine x_b fun bk14 w15 ebk14 sbk14 B16 u17 => ?_
 try have Y18 := Sc.mk (Y13.u.nx u17)
 refine x_n fun bk19 w20 ebk19 sbk19 B21 u22 => ?_
 try have Y23 := Sc.mk (Y18.u.nx u22)
 refine go ?_
 refine c_drawnM follows (fun i => i = sb) (.look 0 (.look 1 (.look 2 (.look 3 (.look 5 (.look 6 (.look 7 (.act 4 (.act 8 (.look 9 (.look 10 (.look 11 (.look 12 (.act 13 .done .stop))))) .stop) (.act 8 (.look 9 (.act 4 (.look 10 (.look 11 (.look 12 (.act 13 .done .stop)))) .stop)) .stop))))))))) (by kernel_rfl) fun w25 u26 => ?_
 have zu26 := u26.size
 try have Y27 := Sc.mk (Y23.u.nx u26)
 refine go ?_
 refine s_or ?_ ?_
 ·
  refine go ?_
  refine y_max rfl rfl rfl rfl ?_
  refine go ?_
  have B28 := (((((k1.kx u7).kx u12).kx u17).kx u22).kx u26)
  refine x_s fun w29 sw29 B31 u30 => ?_
  try have Y32 := Sc.mk (Y27.u.next u30 (fun i hi (h : i = sb) => show TP (FA mb pb sb) pb w0 i by first | omega | assumption | exact TP.back (Sc.u (by assumption)) hi h | exact TP.back (Sc.u (by assumption)) hi (TP.unfx h (by omega)) | exact Or.inl (by rw [h]; assumption) | exact h.elim (fun h => TP.back uPB.u hi h.fx) (fun h => by omega) | exact Or.inr ⟨h.2, h.1 ▸ hpl9.acc.blkT (h.1 ▸ h.2)⟩))
  refine go ?_
  refine q_p (fun g23 => ?_) fun g23 => ?_
  ·
   have B35 : Blk w29 sb 164 [.slice ap rows.length cp, .int .i64 (((max up rows.length) : Nat) : Int)] := by
     have e : ([.slice ap rows.length cp, .int .i64 (max (up : Int) (rows.length : Int))] : List Value) = [.slice ap rows.length cp, .int .i64 (((max up rows.length) : Nat) : Int)] := (by rw [show (((max up rows.length) : Nat) : Int) = max (up : Int) (rows.length : Int) by omega])
     rw [← e]; exact B31
   refine go ?_
   have B37 := ((B21.kx u26).keep u30 (by omega))
   refine x_s fun w38 sw38 B40 u39 => ?_
   try have Y41 := Sc.mk (Y32.u.next u39 (fun i hi (h : i = bk19) => show TP (FA mb pb sb) pb w0 i by first | omega | assumption | exact TP.back (Sc.u (by assumption)) hi h | exact TP.back (Sc.u (by assumption)) hi (TP.unfx h (by omega)) | exact Or.inl (by rw [h]; assumption) | exact h.elim (fun h => TP.back uPB.u hi h.fx) (fun h => by omega) | exact Or.inr ⟨h.2, h.1 ▸ hpl9.acc.blkT (h.1 ▸ h.2)⟩))
   refine go ?_
   have B42 := (B35.keep u39 (by omega))
   have uS : Sc (· = sb) w0 w38 := ⟨((((((((Upd.refl (· = sb) _).nx u7).nx u12).nx u17).nx u22).nx u26).next u30 (fun i hi h => h)).next u39 (fun i hi h => by omega))⟩
   have hrowE : RowC (FA mb pb sb) pb c r am mb cm n ms w38 := hp.row.tpS hp.hsm hp.hcs (.inr rfl) hsb (uS.u.mono fun i e => .inl e)
   have hplE : PlanM (FA mb pb sb) pb w38 ap gp cp rows := hp.plan.upd uS.u (fun hb e => hp.plan.nf hb (.inr e)) (fun q hq hb e => hp.plan.mf q hq hb (.inr e))
   have D45 := ((((((((show Marks w0.heap.size [] w0 from trivial).keepB u7 (CellsB.of (CellsIn.none _))).keepB u12 (CellsB.of (CellsIn.none _))).keepB u17 (CellsB.of (CellsIn.none _))).keepB u22 (CellsB.of (CellsIn.none _))).keepB u26 (CellsB.of (CellsIn.none _))).keepB u30 (CellsB.of (B28).cellsIn)).keepB u39 (CellsB.of (B37).cellsIn))
   have hmkE := D45
   refine f_retMc1 (v := .bool true) results57 (.cell D45 rfl isAgg4 B40 rfl) D45 (fun w43 u44 omw43 => ?_)
   have zu44 := u44.size
   try have Y46 := Sc.mk (Y41.u.next u44 (fun i hi (h : w0.heap.size ≤ i) => show TP (FA mb pb sb) pb w0 i by first | omega | assumption | exact TP.back (Sc.u (by assumption)) hi h | exact TP.back (Sc.u (by assumption)) hi (TP.unfx h (by omega)) | exact Or.inl (by rw [h]; assumption) | exact h.elim (fun h => TP.back uPB.u hi h.fx) (fun h => by omega) | exact Or.inr ⟨h.2, h.1 ▸ hpl9.acc.blkT (h.1 ▸ h.2)⟩))
   have hx0 : xs = [] := List.eq_nil_of_length_eq_zero (by omega)
   subst hx0
   exact ⟨rfl, ⟨rows, ap, gp, cp, B42.keep omw43 (hmkE.notBlk B42), (hplE).bent omw43 (fun i hi => (hmkE.bent i hi).2), fun h => (by cases h), fun p h => by
     injection h with h; subst h; rw [List.append_nil]⟩, (RowC.bent (B := w0.heap.size) (by omega) _ _ _ _ (hrowE) omw43 hmkE.bent), Y46.u⟩
  have B47 : Blk w29 sb 164 [.slice ap rows.length cp, .int .i64 (((max up rows.length) : Nat) : Int)] := by
    have e : ([.slice ap rows.length cp, .int .i64 (max (up : Int) (rows.length : Int))] : List Value) = [.slice ap rows.length cp, .int .i64 (((max up rows.length) : Nat) : Int)] := (by rw [show (((max up rows.length) : Nat) : Int) = max (up : Int) (rows.length : Int) by omega])
    rw [← e]; exact B31
  have hx0 : 0 < xs.length := by omega
  obtain ⟨x0, xs0, hxe⟩ : ∃ a b, xs = a :: b := List.exists_cons_of_length_pos hx0
  have hxl : xs.length = xs0.length + 1 := by rw [hxe]; rfl
  have hd1 : xs.drop 1 = xs0 := by rw [hxe]; rfl
  have hasg : ∀ ms k u, asgP r xs ms k u = tryF (fun t u => asgP r xs0 t.ms (k + 1) u) (teamsP r (nth xs 0) (nth xs 0).h.toNat 0 [] 0 ms) (max u k) := fun ms k u => by rw [hxe]; rfl
  refine go ?_
  refine c_drawnM follows (fun _ => False) (OTl [0, 2, 4, 6, 8, 11]) (by kernel_rfl) fun w50 u51 => ?_
  have zu51 := u51.size
  try have Y52 := Sc.mk (Y32.u.nx u51)
  refine go ?_
  have D53 := (((((((hp.legs.keep u7 (fun _ h => h)).keep u12 (fun _ h => h)).keep u17 (fun _ h => h)).keep u22 (fun _ h => h)).keep u26 (fun _ h => h)).keep u30 (fun h9 => by show ¬ (bx = sb); have h8 := (hp.hbx h9).1; have h7 := hp.legs.lt h9; first | omega | exact fun e => h8 (.inr e) | exact hnx h9 | exact hxg h9)).keep u51 (fun _ h => h))
  refine y_i 0 D53 (fun _ => ?_)
  refine go ?_
  refine x_c func124 rfl rfl (teams_c c (nth xs 0) 0 [] none 0 0 _) ?_
  rintro _ w56 ⟨⟨bT7, bT5, bT6, bT4, rfl, hT7, hT5, hT6, hT4, gT7, gT5, gT6, gT4⟩, u57⟩ zu57
  try have Y59 := Sc.mk (Y52.u.nx u57)
  refine go ?_
  have hP0 : Sc (TP (FA mb pb sb) pb w0) w0 w56 := ⟨Y59.u⟩
  have uS : Sc (· = sb) w0 w56 := ⟨(((((((((Upd.refl (· = sb) _).nx u7).nx u12).nx u17).nx u22).nx u26).next u30 (fun i hi h => h)).nx u51).nx u57)⟩
  have B60 := ((((B21.kx u26).keep u30 (by omega)).kx u51).kx u57)
  have B61 := ((B47.kx u51).kx u57)
  have hrowR : RowC (FA mb pb sb) pb c r am mb cm n ms w56 := hp.row.tpS hp.hsm hp.hcs (.inr rfl) hsb (uS.u.mono fun i e => .inl e)
  have hplR : PlanM (FA mb pb sb) pb w56 ap gp cp rows := hp.plan.upd uS.u (fun hb e => hp.plan.nf hb (.inr e)) (fun q hq hb e => hp.plan.mf q hq hb (.inr e))
  have l6 := B60.lt
  have hx30 := okLeg_ok (hp.hxs _ (nth_mem hx0))
  have hbxR : pb ≤ bx → ∃ t cs, t ≠ 38 ∧ Blk w56 bx t cs := fun hb => by
    obtain ⟨t, cs, ht, hB⟩ := (hp.hbx hx0).2 hb
    exact ⟨t, cs, ht, hB.keep uS.u (fun e => (hp.hbx hx0).1 (.inr e))⟩
  have hnx : 0 < xs.length → ¬ TP (FX (FX (FA mb pb sb) bk19) (w56.heap.size + 1)) pb w56 bx := fun h => by
    have h6 := hp.legs.lt h
    rintro (q | ⟨q, cs, hb⟩)
    · exact q.elim (fun q => q.elim (hp.hbx h).1 (fun e => by omega)) (fun e => by omega)
    · obtain ⟨t, cs', ht, hb'⟩ := hbxR q
      exact TP.not (F := F0) (fun h => h) hb' ht (.inr ⟨q, cs, hb⟩)
  have B63 := (((((((B6.kx u12).kx u17).kx u22).kx u26).keep u30 (by omega)).kx u51).kx u57)
  have nTb62 : ¬ TP (FX (FX (FA mb pb sb) bk19) (w56.heap.size + 1)) pb w56 bk4 := TP.not (fun h => h.elim (fun h => h.elim (fun h => by have := (hFAl _ h).2; omega) (fun e => by omega)) (fun e => by omega)) B63 (by decide)
  have B65 := ((((((B11.kx u17).kx u22).kx u26).keep u30 (by omega)).kx u51).kx u57)
  have nTb64 : ¬ TP (FX (FX (FA mb pb sb) bk19) (w56.heap.size + 1)) pb w56 bk9 := TP.not (fun h => h.elim (fun h => h.elim (fun h => by have := (hFAl _ h).2; omega) (fun e => by omega)) (fun e => by omega)) B65 (by decide)
  have B67 := (((((B16.kx u22).kx u26).keep u30 (by omega)).kx u51).kx u57)
  have nTb66 : ¬ TP (FX (FX (FA mb pb sb) bk19) (w56.heap.size + 1)) pb w56 bk14 := TP.not (fun h => h.elim (fun h => h.elim (fun h => by have := (hFAl _ h).2; omega) (fun e => by omega)) (fun e => by omega)) B67 (by decide)
  have hFi : ∀ i, (FX (FX (FA mb pb sb) bk19) (w56.heap.size + 1)) i → pb ≤ i ∧ i < w56.heap.size + 2 := fun i h => h.elim (fun h => h.elim (fun h => ⟨(hFAl _ h).1, by have := (hFAl _ h).2; omega⟩) (fun e => ⟨by omega, by omega⟩)) (fun e => ⟨by omega, by omega⟩)
  have hFm : pb ≤ mb → (FX (FX (FA mb pb sb) bk19) (w56.heap.size + 1)) mb := fun h => .inl (.inl (.inl ⟨rfl, h⟩))
  have h6m : pb ≤ mb → mb ≠ bk19 := hrowR.row.acc.neBlk B60 (by decide)
  have hFB : ∀ i, (FX (FA mb pb sb) bk19) i → i < w56.heap.size := fun i h => h.elim (fun h => by have := (hFAl _ h).2; omega) (fun e => by omega)
  have lT7 := hT7.lt
  have lT5 := hT5.lt
  have lT4 := hT4.lt
  refine WC.weak [(3, .pointer (some ⟨bk4, 0, none⟩)), (4, .pointer (some ⟨bk9, 0, none⟩)), (5, .pointer (some ⟨bk14, 0, none⟩)), (6, .pointer (some ⟨bk19, 0, none⟩)), (29, .func (.func 186) #[] #[.pointer (some ⟨bT7, 0, none⟩), .pointer (some ⟨bT5, 0, none⟩), .pointer (some ⟨bT6, 0, none⟩), .pointer (some ⟨bT4, 0, none⟩)])] ⟨rfl, rfl, rfl, rfl, rfl, trivial⟩ (c_rangeL (γ := HT) (δ := Nat) (lb := [.pointer (some ⟨bT7, 0, none⟩), .pointer (some ⟨bT5, 0, none⟩), .pointer (some ⟨bT6, 0, none⟩), .pointer (some ⟨bT4, 0, none⟩)]) (enc := encHT) own186 rfl rfl (YT (FX (FX (FA mb pb sb) bk19) (w56.heap.size + 1)) pb c r am mb cm n (90 - 3 * xs0.length) w56.heap.size (AC (FX (FX (FA mb pb sb) bk19) (w56.heap.size + 1)) (fun t u => asgP r xs0 t.ms (rows.length + 1) u) (max up rows.length) mb pb sb bk19 rows w56)) (ZT (FX (FX (FA mb pb sb) bk19) (w56.heap.size + 1)) pb c r am mb cm n (AC (FX (FX (FA mb pb sb) bk19) (w56.heap.size + 1)) (fun t u => asgP r xs0 t.ms (rows.length + 1) u) (max up rows.length) mb pb sb bk19 rows w56)) (FT (FX (FX (FA mb pb sb) bk19) (w56.heap.size + 1)) pb c r am mb cm n (AF (FX (FX (FA mb pb sb) bk19) (w56.heap.size + 1)) (fun t u => asgP r xs0 t.ms (rows.length + 1) u) (max up rows.length) mb pb sb bk19 rows w56) id) (EX (FX (FX (FA mb pb sb) bk19) (w56.heap.size + 1)) (FX (FX (FA mb pb sb) bk19) (w56.heap.size + 1)) pb c r am mb cm n w56 (AC (FX (FX (FA mb pb sb) bk19) (w56.heap.size + 1)) (fun t u => asgP r xs0 t.ms (rows.length + 1) u) (max up rows.length) mb pb sb bk19 rows w56 (teamsP r (nth xs 0) (nth xs 0).h.toNat 0 [] 0 (ms.map HM.mb))) ms) (EX (FX (FX (FA mb pb sb) bk19) (w56.heap.size + 1)) F0 pb c r am mb cm n w56 (EndT (teamsP r (nth xs 0) (nth xs 0).h.toNat 0 [] 0 (ms.map HM.mb)) (AF (FX (FX (FA mb pb sb) bk19) (w56.heap.size + 1)) (fun t u => asgP r xs0 t.ms (rows.length + 1) u) (max up rows.length) mb pb sb bk19 rows w56)) (id ms)) (ZT.turned ((AC.bent (Nat.le_succ _)).turned (Nat.le_refl _)) (.inr rfl)) (FT.turned ((AF.bent (Nat.le_succ _)).turned (Nat.le_refl _)) (.inr rfl)) (EX.turned (fun _ => ((AC.bent (Nat.le_succ _)).turned (Nat.le_refl _)) _) (.inr rfl)) (EX.turned (EndT.turned ((AF.bent (Nat.le_succ _)).turned (Nat.le_refl _))) (.inr rfl)) ?_ (fun x d => [(3, .pointer (some ⟨bk4, 0, none⟩)), (4, .pointer (some ⟨bk9, 0, none⟩)), (5, .pointer (some ⟨bk14, 0, none⟩)), (6, .pointer (some ⟨bk19, 0, none⟩)), (7, .pointer (some ⟨d, 0, none⟩))]) (fun x d W => (Blk W d 275 [.slice x.ao x.nums.length x.cap, .int .i64 x.pl] ∧ w56.heap.size + 1 < d) ∧ YT (FX (FX (FA mb pb sb) bk19) (w56.heap.size + 1)) pb c r am mb cm n (90 - 3 * xs0.length) w56.heap.size (AC (FX (FX (FA mb pb sb) bk19) (w56.heap.size + 1)) (fun t u => asgP r xs0 t.ms (rows.length + 1) u) (max up rows.length) mb pb sb bk19 rows w56) x W) (fun d x W W' h hl u => ⟨⟨h.1.1.keep u (h.1.1.notLoop hl), h.1.2⟩, YT.turned ((AC.bent (Nat.le_succ _)).turned (Nat.le_refl _)) _ _ _ h.2 hl u⟩) ?_ ?_ ?_ ?_)
  ·
   intro l_ D_ R_ Rf_ W hD_ hl_ hsz hE1 hH_ hR_
   subst hD_ hl_
   refine (teams1_c r (nth xs 0) pb c am mb cm n (90 - 3 * xs0.length) (nth xs 0).h.toNat (FX (FX (FA mb pb sb) bk19) (w56.heap.size + 1)) _ w56.heap.size (AC (FX (FX (FA mb pb sb) bk19) (w56.heap.size + 1)) (fun t u => asgP r xs0 t.ms (rows.length + 1) u) (max up rows.length) mb pb sb bk19 rows w56) (AF (FX (FX (FA mb pb sb) bk19) (w56.heap.size + 1)) (fun t u => asgP r xs0 t.ms (rows.length + 1) u) (max up rows.length) mb pb sb bk19 rows w56) R_ Rf_ id bT7 bT5 bT6 bT4 0 [] none 0 0 0 ms W ⟨hp.hr, hp.hxs _ (nth_mem hx0), AC.mb hp.hsm h6m hFm, AF.mb hp.hsm h6m hFm, AC.bent (by omega), AF.bent (by omega), hH_, hT7.kx hE1, hT5.kx hE1, hT6.kx hE1, hT4.kx hE1, ?_, Acc.nil _ _ _ _ _ (by omega) (by omega), fun h => by omega, fun i h => ⟨(hFi i h).1, by have := (hFi i h).2; omega⟩, (fun h => h.elim (fun h => h.elim (fun h => by have := (hFAl _ h).2; omega) (fun e => by omega)) (fun e => by omega)), (fun h => h.elim (fun h => h.elim (fun h => by have := (hFAl _ h).2; omega) (fun e => by omega)) (fun e => by omega)), (fun h => h.elim (fun h => h.elim (fun h => by have := (hFAl _ h).2; omega) (fun e => by omega)) (fun e => by omega)), ?_, .inr rfl, hFm, rfl, by omega, ⟨hpb.1, by omega⟩, ?_, ?_, by omega, hn6, ⟨by decide, by decide⟩, ⟨⟨_, ap, gp, cp, rfl, B61.kx hE1, hplR.ext hE1⟩, B60.kx hE1, hE1.to⟩, hR_, fun _ => rfl, fun _ _ _ _ => rfl⟩).mono fun _ w9 h9 => ?_
   · exact (hrowR.mono fun m hm hb hg => hg.elim (fun hg => hg.elim id (fun e => absurd e ((hrowR.row.mem m hm).ht.neBlk B60 (by decide) hb))) (fun e => by have := (hrowR.row.mem m hm).ht.lt; omega)).ext hE1
   · exact fun h => h.elim (fun h => h.elim (fun h => h.elim (fun h => hp.hcm (h.1 ▸ h.2) h.1) hp.hcs) (fun e => by omega)) (fun e => by omega)
   · show ((0 : Nat) : Int) + _ = _; omega
   · exact fun m hm => by have := hp.hB m hm; omega
   have h8 := (hE1.to (S := TP (FX (FX (FA mb pb sb) bk19) (w56.heap.size + 1)) pb w56)).next h9.2 (fun i hi h => TP.backE hE1 hi h)
   exact h9.1.elim (fun q => .inl ⟨⟨q.1, q.2.2, h8⟩, q.2.1⟩) (fun q => .inr ⟨⟨q.1, q.2.2, h8⟩, q.2.1⟩)
  ·
   intro lq x W K68 hI hK68
   change WC _ _ _ _ _ _ [(30, .agg #[.slice x.ao x.nums.length x.cap, .int .i64 x.pl]), (3, .pointer (some ⟨bk4, 0, none⟩)), (4, .pointer (some ⟨bk9, 0, none⟩)), (5, .pointer (some ⟨bk14, 0, none⟩)), (6, .pointer (some ⟨bk19, 0, none⟩)), (29, .func (.func 186) #[] #[.pointer (some ⟨bT7, 0, none⟩), .pointer (some ⟨bT5, 0, none⟩), .pointer (some ⟨bT6, 0, none⟩), .pointer (some ⟨bT4, 0, none⟩)])] _
   refine (q_of ?_)
   have E000 := Sc.mk (Upd.refl (fun _ => False) W)
   refine go ?_
   refine x_n fun bk69 w70 ebk69 sbk69 B71 u72 => ?_
   try have Y73 := Sc.mk (E000.u.nx u72)
   refine x_s fun w74 sw74 B76 u75 => ?_
   try have Y77 := Sc.mk (Y73.u.next u75 (fun i hi h => by omega))
   refine go ?_
   exact hK68 bk69 _ _ ⟨rfl, rfl, rfl, rfl, rfl, trivial⟩ Y77.u ⟨⟨B76, by have := hI.hD; omega⟩, ⟨AC.mb hp.hsm h6m hFm _ _ _ hI.hc (Ext.to Y77.u), hI.row.ext Y77.u, hI.num.keep Y77.u (fun _ h => h), hI.nf, hI.len, hI.n3, by have := hI.hD; have := (Y77.u).size; omega, hI.upd.nx Y77.u⟩⟩
  ·
   intro lq x d w78 hY
   obtain ⟨⟨hbd, hdg⟩, hY⟩ := hY
   obtain ⟨u9, ap9, gp9, cp9, htr, hsb9, hpl9⟩ := hY.hc.ex
   have huR := hY.hc.hu
   have hdl := hbd.lt
   have hgl9 := hpl9.acc.lt
   have zhuR := huR.size
   try have Y79 := Sc.mk (Y59.u.next huR (fun i hi (h : TP (FX (FX (FA mb pb sb) bk19) (w56.heap.size + 1)) pb w56 i) => show TP (FA mb pb sb) pb w0 i by first | omega | assumption | exact TP.back (Sc.u (by assumption)) hi h | exact TP.back (Sc.u (by assumption)) hi (TP.unfx h (by omega)) | exact Or.inl (by rw [h]; assumption) | exact h.elim (fun h => TP.back uPB.u hi h.fx) (fun h => by omega) | exact Or.inr ⟨h.2, h.1 ▸ hpl9.acc.blkT (h.1 ▸ h.2)⟩))
   have lt_gp9 := hpl9.acc.lt
   have hgsb : pb ≤ gp9 → gp9 ≠ sb := fun h e => hpl9.nf h (.inr e)
   have hxg : 0 < xs.length → ¬ (bx = gp9 ∧ pb ≤ bx) := fun h e => by
     obtain ⟨t, cs, ht, hB⟩ := hbxR e.2
     obtain ⟨cs9, h75⟩ := hpl9.acc.blkT (e.1 ▸ e.2)
     exact absurd e.1 ((hB.keep hY.hc.hu (hnx hx0)).neT h75 ht)
   have hFBs : (FX (FA mb pb sb) bk19) sb := .inl (.inr rfl)
   have hFB6 : (FX (FA mb pb sb) bk19) bk19 := .inr rfl
   have B81 := (B63.keep huR (show ¬ (TP (FX (FX (FA mb pb sb) bk19) (w56.heap.size + 1)) pb w56 bk4) by first | omega | assumption))
   have hgp80 : pb ≤ gp9 → gp9 ≠ bk4 := hpl9.acc.neBlk B81 (by decide)
   have B83 := (B65.keep huR (show ¬ (TP (FX (FX (FA mb pb sb) bk19) (w56.heap.size + 1)) pb w56 bk9) by first | omega | assumption))
   have hgp82 : pb ≤ gp9 → gp9 ≠ bk9 := hpl9.acc.neBlk B83 (by decide)
   have B85 := (B67.keep huR (show ¬ (TP (FX (FX (FA mb pb sb) bk19) (w56.heap.size + 1)) pb w56 bk14) by first | omega | assumption))
   have hgp84 : pb ≤ gp9 → gp9 ≠ bk14 := hpl9.acc.neBlk B85 (by decide)
   have hgp86 : pb ≤ gp9 → gp9 ≠ bk19 := hpl9.acc.neBlk hY.hc.b6 (by decide)
   have hgp87 : pb ≤ gp9 → gp9 ≠ d := hpl9.acc.neBlk hbd (by decide)
   change WC _ _ _ _ _ _ [(3, .pointer (some ⟨bk4, 0, none⟩)), (4, .pointer (some ⟨bk9, 0, none⟩)), (5, .pointer (some ⟨bk14, 0, none⟩)), (6, .pointer (some ⟨bk19, 0, none⟩)), (7, .pointer (some ⟨d, 0, none⟩))] _
   refine (q_of ?_)
   have hcellsR := (TP.cellsB (F := (FX (FA mb pb sb) bk19)) (pb := pb) (B := w56.heap.size) (w := w78) hFB)
   refine go ?_
   refine c_drawnM follows (fun i => (i = gp9 ∧ pb ≤ i) ∨ i = sb) (.look 0 (.look 1 (.look 2 (.look 3 (.look 5 (.look 6 (.act 4 (.act 7 (.act 8 (.look 9 (.look 10 (.act 11 .done .stop))) .stop) .stop) (.act 7 (.act 4 (.act 8 (.look 9 (.look 10 (.act 11 .done .stop))) .stop) .stop) .stop)))))))) (by kernel_rfl) fun w89 u90 => ?_
   have zu90 := u90.size
   try have Y91 := Sc.mk (Y79.u.nx u90)
   refine go ?_
   refine s_or ?_ ?_
   ·
    refine go ?_
    refine x_l fun bk92 w93 ebk92 sbk92 B94 u95 => ?_
    try have Y96 := Sc.mk (Y91.u.nx u95)
    refine go ?_
    have D97 := ((hpl9.acc.keep u90 (fun _ h => h)).keep u95 (fun _ h => h))
    refine t_append (z := .slice none 0 0) (bytes := 24) (k := 1) (base := pb) (HT.hr x) underlying84 (by kernel_rfl) rfl (by decide) (fun _ => rfl) (by intro x; simp [encHRK, Value.oneCell']) rfl rfl rfl rfl D97 B94 (by omega) (by omega) (by decide) (fun ao98 gb99 cp100 w101 A102 u103 gegb99 lngb99 => ?_)
    have zu103 := u103.size
    try have Y104 := Sc.mk (Y96.u.next u103 (fun i hi (h : (i = gp9 ∧ pb ≤ i)) => show TP (FA mb pb sb) pb w0 i by first | omega | assumption | exact TP.back (Sc.u (by assumption)) hi h | exact TP.back (Sc.u (by assumption)) hi (TP.unfx h (by omega)) | exact Or.inl (by rw [h]; assumption) | exact h.elim (fun h => TP.back uPB.u hi h.fx) (fun h => by omega) | exact Or.inr ⟨h.2, h.1 ▸ hpl9.acc.blkT (h.1 ▸ h.2)⟩))
    have lt_gb99 := A102.lt
    refine go ?_
    refine x_s fun w106 sw106 B108 u107 => ?_
    try have Y109 := Sc.mk (Y104.u.next u107 (fun i hi (h : i = sb) => show TP (FA mb pb sb) pb w0 i by first | omega | assumption | exact TP.back (Sc.u (by assumption)) hi h | exact TP.back (Sc.u (by assumption)) hi (TP.unfx h (by omega)) | exact Or.inl (by rw [h]; assumption) | exact h.elim (fun h => TP.back uPB.u hi h.fx) (fun h => by omega) | exact Or.inr ⟨h.2, h.1 ▸ hpl9.acc.blkT (h.1 ▸ h.2)⟩))
    refine go ?_
    have B113 := ((((B81.kx u90).kx u95).keep u103 (by omega)).keep u107 (by omega))
    have nTb112 : ¬ TQ (FA mb pb sb) pb w106 bk4 := TQ.not (Upd.refl _ _) (fun h => by have := (hFAl _ h).2; omega) (by omega) B113 (by decide)
    have B115 := ((((B83.kx u90).kx u95).keep u103 (by omega)).keep u107 (by omega))
    have nTb114 : ¬ TQ (FA mb pb sb) pb w106 bk9 := TQ.not (Upd.refl _ _) (fun h => by have := (hFAl _ h).2; omega) (by omega) B115 (by decide)
    have B117 := ((((B85.kx u90).kx u95).keep u103 (by omega)).keep u107 (by omega))
    have nTb116 : ¬ TQ (FA mb pb sb) pb w106 bk14 := TQ.not (Upd.refl _ _) (fun h => by have := (hFAl _ h).2; omega) (by omega) B117 (by decide)
    have B119 := ((((hY.hc.b6.kx u90).kx u95).keep u103 (by omega)).keep u107 (by omega))
    have nTb118 : ¬ TQ (FA mb pb sb) pb w106 bk19 := TQ.not (Upd.refl _ _) (fun h => by have := (hFAl _ h).2; omega) (by omega) B119 (by decide)
    refine c_drawnM follows (fun i => TQ (FA mb pb sb) pb w106 i) (OTl [0, 2, 4, 6, 9]) (by kernel_rfl) fun w120 u121 => ?_
    have zu121 := u121.size
    try have Y122 := Sc.mk (Y109.u.nx u121)
    refine go ?_
    refine y_sliceFrom (1) underlying74 sizeOf79 rfl rfl rfl rfl rfl (by omega) hp.hcx (y_same 45 (v := .slice (subAddr ax cx 1 7) xs0.length (cx - 1)) rfl (by rw [hxl]; rfl) ?_)
    refine go ?_
    have uQ : Sc (TP (fun i => i = sb) pb w78) w78 w120 := ⟨((((((Upd.refl (TP (fun i => i = sb) pb w78) _).nx u90).nx u95).next u103 (fun i hi h => .inr ⟨h.2, h.1 ▸ hpl9.acc.blkT (h.1 ▸ h.2)⟩)).next u107 (fun i hi h => .inl h)).nx u121)⟩
    have uPB : Sc (TP (FX (FA mb pb sb) bk19) pb w78) w78 w106 := ⟨((((((Upd.refl (TP (fun i => i = sb) pb w78) _).nx u90).nx u95).next u103 (fun i hi h => .inr ⟨h.2, h.1 ▸ hpl9.acc.blkT (h.1 ▸ h.2)⟩)).next u107 (fun i hi h => .inl h))).mono (fun i h => h.elim (fun h => .inl (.inl (.inr h))) .inr)⟩
    have B123 := (B108.kx u121)
    have D124 := ((A102.keep u107 (fun hb => show ¬ (gb99 = sb) by first | omega | assumption)).keep u121 (fun _ h => h))
    have D125 := (((((((D53.keep u57 (fun _ h => h)).keep huR (fun h9 => by show ¬ (TP (FX (FX (FA mb pb sb) bk19) (w56.heap.size + 1)) pb w56 bx); have h8 := (hp.hbx h9).1; have h7 := hp.legs.lt h9; first | omega | exact fun e => h8 (.inr e) | exact hnx h9 | exact hxg h9)).keep u90 (fun _ h => h)).keep u95 (fun _ h => h)).keep u103 (fun h9 => by show ¬ ((bx = gp9 ∧ pb ≤ bx)); have h8 := (hp.hbx h9).1; have h7 := hp.legs.lt h9; first | omega | exact fun e => h8 (.inr e) | exact hnx h9 | exact hxg h9)).keep u107 (fun h9 => by show ¬ (bx = sb); have h8 := (hp.hbx h9).1; have h7 := hp.legs.lt h9; first | omega | exact fun e => h8 (.inr e) | exact hnx h9 | exact hxg h9)).keep u121 (fun _ h => h))
    have hrowQ : RowC (FA mb pb sb) pb c r am mb cm n x.hm w120 := (hY.row.mono fun m hm hb hf => .inl (.inl hf)).tpS hp.hsm hp.hcs (.inr rfl) hsb uQ.u
    have hplQ : PlanM (FA mb pb sb) pb w120 ao98 gb99 cp100 (rows ++ [HT.hr x]) := hpl9.push (.inr rfl) uQ.u D124 (fun hb hf => by
      rcases (show gb99 = gp9 ∨ w0.heap.size ≤ gb99 by omega) with e | e
      · exact hpl9.nf (e ▸ hb) (e ▸ hf)
      · have := (hFAl _ hf).2; omega) hY.num (fun hb hf => hY.nf hb (.inl (.inl hf)))
    have hx1 : Sl encLeg 7 w120 (subAddr ax cx 1 7) bx (ox + 1 * 7) xs0 := by
      have h := (D125).sub cx 1 xs0.length hp.hcx
      rwa [hd1, List.take_length] at h
    have hbx1 : 0 < xs0.length → ¬ (FA mb pb sb) bx ∧ (pb ≤ bx → ∃ t cs, t ≠ 38 ∧ Blk w120 bx t cs) := fun _ => ⟨(hp.hbx hx0).1, fun hb => by
      obtain ⟨t, cs, ht, hB⟩ := hbxR hb
      have h8 := hB.keep hY.hc.hu (hnx hx0)
      exact ⟨t, cs, ht, h8.keep uQ.u (TP.not (fun e => (hp.hbx hx0).1 (.inr e)) h8 ht)⟩⟩
    refine t_call own57 rfl rfl rfl rfl ((ih x0 xs0 hxe r pb c am mb cm n sb _ bx _ _ x.hm _ ao98 gb99 cp100 u9 _ ⟨hp.hr, fun y hy => hp.hxs y (by rw [hxe]; exact List.mem_cons_of_mem _ hy), fun m hm => by have := hY.len m hm; have := hp.hB; omega, hx1, by have := hp.hcx; omega, hbx1, B123, hplQ, hrowQ, hp.hcm, hp.hcs, hsb, hp.hsm, hn6, by rw [List.length_append, List.length_singleton]; omega, ⟨hpb.1, by omega⟩⟩).mono fun _ _ h => AsgR.t h u121) (fun v126 w127 r129 => ?_)
    obtain ⟨rfl, ⟨rows2, ap2, gp2, cp2, hsb2, hpl2, hno2, hso2⟩, hrow2, u128⟩ := r129
    have zu128 := u128.size
    try have Y130 := Sc.mk (Y122.u.next u128 (fun i hi (h : TQ (FA mb pb sb) pb w106 i) => show TP (FA mb pb sb) pb w0 i by first | omega | assumption | exact TP.back (Sc.u (by assumption)) hi h | exact TP.back (Sc.u (by assumption)) hi (TP.unfx h (by omega)) | exact Or.inl (by rw [h]; assumption) | exact h.elim (fun h => TP.back uPB.u hi h.fx) (fun h => by omega) | exact Or.inr ⟨h.2, h.1 ▸ hpl9.acc.blkT (h.1 ▸ h.2)⟩))
    have hA9 : (asgP r xs0 (x.hm.map HM.mb) (rows ++ [HT.hr x]).length u9) = asgP r xs0 (x.hm.map HM.mb) (rows.length + 1) u9 := by rw [List.length_append]; rfl
    have B131 := ((B119.kx u121).keep u128 (show ¬ (TQ (FA mb pb sb) pb w106 bk19) by first | omega | assumption))
    have h6A := B131
    refine s_next ((Upd.refl _ _).next u128 (fun i hi (h : TQ (FA mb pb sb) pb w106 i) => show w120.heap.size ≤ i ∨ (TQ (FA mb pb sb) pb w106 i) by first | omega | exact .inr h)) ?_
    refine go ?_
    refine q_b (fun g46 => ?_) fun g46 => ?_
    ·
     obtain ⟨q9, hq9⟩ := Option.isSome_iff_exists.1 g46
     refine go ?_
     refine x_s fun w133 sw133 B135 u134 => ?_
     try have Y136 := Sc.mk (Y130.u.next u134 (fun i hi (h : i = bk19) => show TP (FA mb pb sb) pb w0 i by first | omega | assumption | exact TP.back (Sc.u (by assumption)) hi h | exact TP.back (Sc.u (by assumption)) hi (TP.unfx h (by omega)) | exact Or.inl (by rw [h]; assumption) | exact h.elim (fun h => TP.back uPB.u hi h.fx) (fun h => by omega) | exact Or.inr ⟨h.2, h.1 ▸ hpl9.acc.blkT (h.1 ▸ h.2)⟩))
     refine go ?_
     have hUr := ((((((((Upd.refl (fun i => TP (FX (FA mb pb sb) bk19) pb w78 i) w78).nx u90).nx u95).next u103 (fun i hi (h : (i = gp9 ∧ pb ≤ i)) => show TP (FX (FA mb pb sb) bk19) pb w78 i by first | omega | assumption | exact TP.back (Sc.u (by assumption)) hi h | exact TP.back (Sc.u (by assumption)) hi (TP.unfx h (by omega)) | exact Or.inl (by rw [h]; assumption) | exact h.elim (fun h => TP.back uPB.u hi h.fx) (fun h => by omega) | exact Or.inr ⟨h.2, h.1 ▸ hpl9.acc.blkT (h.1 ▸ h.2)⟩)).next u107 (fun i hi (h : i = sb) => show TP (FX (FA mb pb sb) bk19) pb w78 i by first | omega | assumption | exact TP.back (Sc.u (by assumption)) hi h | exact TP.back (Sc.u (by assumption)) hi (TP.unfx h (by omega)) | exact Or.inl (by rw [h]; assumption) | exact h.elim (fun h => TP.back uPB.u hi h.fx) (fun h => by omega) | exact Or.inr ⟨h.2, h.1 ▸ hpl9.acc.blkT (h.1 ▸ h.2)⟩)).nx u121).next u128 (fun i hi (h : TQ (FA mb pb sb) pb w106 i) => show TP (FX (FA mb pb sb) bk19) pb w78 i by first | omega | assumption | exact TP.back (Sc.u (by assumption)) hi h | exact TP.back (Sc.u (by assumption)) hi (TP.unfx h (by omega)) | exact Or.inl (by rw [h]; assumption) | exact h.elim (fun h => TP.back uPB.u hi h.fx) (fun h => by omega) | exact Or.inr ⟨h.2, h.1 ▸ hpl9.acc.blkT (h.1 ▸ h.2)⟩)).next u134 (fun i hi (h : i = bk19) => show TP (FX (FA mb pb sb) bk19) pb w78 i by first | omega | assumption | exact TP.back (Sc.u (by assumption)) hi h | exact TP.back (Sc.u (by assumption)) hi (TP.unfx h (by omega)) | exact Or.inl (by rw [h]; assumption) | exact h.elim (fun h => TP.back uPB.u hi h.fx) (fun h => by omega) | exact Or.inr ⟨h.2, h.1 ▸ hpl9.acc.blkT (h.1 ▸ h.2)⟩))
     have uW : Sc (TP (FX (FX (FA mb pb sb) bk19) (w56.heap.size + 1)) pb w78) _ _ := ⟨hUr.mono (fun i h => h.fx)⟩
     have B137 := (hsb2.keep u134 (by omega))
     have uT : Sc (· = bk19) w127 w133 := ⟨((Upd.refl (· = bk19) _).next u134 (fun i hi h => h))⟩
     exact ⟨fun a ha => ⟨KeepsFrom.of_updB hUr hcellsR, (⟨⟨⟨_, _, q9, _, _, _, _, htr, (by show asgP r xs0 (x.hm.map HM.mb) (rows.length + 1) u9 = _; rw [← hA9]; exact Prod.ext hq9 rfl), B137, hpl2.up6 h6A uT.u, by rw [hso2 q9 hq9, List.map_append, List.append_assoc]; rfl⟩, B135, hY.hc.hu.next uW.u (fun i hi h => TP.back hY.hc.hu hi h)⟩, (hrow2.up6 h6A (by omega) uT.u).f0, (hY.upd.mono fun i e => .inl (.inr e)).next uW.u (fun i hi h => TP.back (hY.upd.mono fun i e => .inl (.inr e)) hi h)⟩ : FT (FX (FX (FA mb pb sb) bk19) (w56.heap.size + 1)) pb c r am mb cm n (AF (FX (FX (FA mb pb sb) bk19) (w56.heap.size + 1)) (fun t u => asgP r xs0 t.ms (rows.length + 1) u) (max up rows.length) mb pb sb bk19 rows w56) id x _)⟩⟩
    have hq9 := Option.not_isSome_iff_eq_none.1 (fun h => by rw [h] at g46; cases g46)
    have hr2 := hno2 hq9
    rw [hr2] at hsb2 hpl2
    have lt_gp2 := hpl2.acc.lt
    refine go ?_
    refine c_drawnM follows (fun i => i = sb) (.look 0 (.look 1 (.look 2 (.look 3 (.look 5 (.look 6 (.look 7 (.act 4 (.act 8 (.look 9 (.look 10 (.look 11 (.look 12 (.look 13 (.act 14 .done .stop)))))) .stop) (.act 8 (.look 9 (.look 10 (.act 4 (.look 11 (.look 12 (.look 13 (.act 14 .done .stop)))) .stop))) .stop))))))))) (by kernel_rfl) fun w138 u139 => ?_
    have zu139 := u139.size
    try have Y140 := Sc.mk (Y130.u.nx u139)
    refine go ?_
    refine s_or ?_ ?_
    ·
     refine go ?_
     refine y_sliceTo (rows.length) underlying84 sizeOf38 rfl rfl rfl rfl (by rw [List.length_append, List.length_singleton]; omega) (by have := hpl2.acc.cap_le; rw [List.length_append, List.length_singleton] at this; omega) (y_same 58 (v := .slice ap2 rows.length cp2) rfl (by rw [hpl2.acc.sub0 (by simp)]) ?_)
     refine go ?_
     refine x_s fun w142 sw142 B144 u143 => ?_
     try have Y145 := Sc.mk (Y140.u.next u143 (fun i hi (h : i = sb) => show TP (FA mb pb sb) pb w0 i by first | omega | assumption | exact TP.back (Sc.u (by assumption)) hi h | exact TP.back (Sc.u (by assumption)) hi (TP.unfx h (by omega)) | exact Or.inl (by rw [h]; assumption) | exact h.elim (fun h => TP.back uPB.u hi h.fx) (fun h => by omega) | exact Or.inr ⟨h.2, h.1 ▸ hpl9.acc.blkT (h.1 ▸ h.2)⟩))
     refine go ?_
     have hUr := (((((((((Upd.refl (fun i => TP (FX (FA mb pb sb) bk19) pb w78 i) w78).nx u90).nx u95).next u103 (fun i hi (h : (i = gp9 ∧ pb ≤ i)) => show TP (FX (FA mb pb sb) bk19) pb w78 i by first | omega | assumption | exact TP.back (Sc.u (by assumption)) hi h | exact TP.back (Sc.u (by assumption)) hi (TP.unfx h (by omega)) | exact Or.inl (by rw [h]; assumption) | exact h.elim (fun h => TP.back uPB.u hi h.fx) (fun h => by omega) | exact Or.inr ⟨h.2, h.1 ▸ hpl9.acc.blkT (h.1 ▸ h.2)⟩)).next u107 (fun i hi (h : i = sb) => show TP (FX (FA mb pb sb) bk19) pb w78 i by first | omega | assumption | exact TP.back (Sc.u (by assumption)) hi h | exact TP.back (Sc.u (by assumption)) hi (TP.unfx h (by omega)) | exact Or.inl (by rw [h]; assumption) | exact h.elim (fun h => TP.back uPB.u hi h.fx) (fun h => by omega) | exact Or.inr ⟨h.2, h.1 ▸ hpl9.acc.blkT (h.1 ▸ h.2)⟩)).nx u121).next u128 (fun i hi (h : TQ (FA mb pb sb) pb w106 i) => show TP (FX (FA mb pb sb) bk19) pb w78 i by first | omega | assumption | exact TP.back (Sc.u (by assumption)) hi h | exact TP.back (Sc.u (by assumption)) hi (TP.unfx h (by omega)) | exact Or.inl (by rw [h]; assumption) | exact h.elim (fun h => TP.back uPB.u hi h.fx) (fun h => by omega) | exact Or.inr ⟨h.2, h.1 ▸ hpl9.acc.blkT (h.1 ▸ h.2)⟩)).nx u139).next u143 (fun i hi (h : i = sb) => show TP (FX (FA mb pb sb) bk19) pb w78 i by first | omega | assumption | exact TP.back (Sc.u (by assumption)) hi h | exact TP.back (Sc.u (by assumption)) hi (TP.unfx h (by omega)) | exact Or.inl (by rw [h]; assumption) | exact h.elim (fun h => TP.back uPB.u hi h.fx) (fun h => by omega) | exact Or.inr ⟨h.2, h.1 ▸ hpl9.acc.blkT (h.1 ▸ h.2)⟩))
     have uW : Sc (TP (FX (FX (FA mb pb sb) bk19) (w56.heap.size + 1)) pb w78) _ _ := ⟨hUr.mono (fun i h => h.fx)⟩
     have B146 := ((B131.kx u139).keep u143 (by omega))
     have uT : Sc (· = sb) w127 w142 := ⟨(((Upd.refl (· = sb) _).nx u139).next u143 (fun i hi h => h))⟩
     exact ⟨fun a ha => ⟨KeepsFrom.of_updB hUr hcellsR, (⟨⟨⟨_, _, _, _, tryF_step htr (by show asgP r xs0 (x.hm.map HM.mb) (rows.length + 1) u9 = _; rw [← hA9]; exact Prod.ext hq9 rfl), B144, hpl2.pop.upd uT.u (fun hb e => hpl2.nf hb (.inr e)) (fun q hq hb e => hpl2.pop.mf q hq hb (.inr e))⟩, B146, hY.hc.hu.next uW.u (fun i hi h => TP.back hY.hc.hu hi h)⟩, (hrow2.tpS hp.hsm hp.hcs (.inr rfl) hsb (uT.u.mono fun i e => .inl e)).toF hY.row.row, (hY.upd.mono fun i e => .inl (.inr e)).next uW.u (fun i hi h => TP.back (hY.upd.mono fun i e => .inl (.inr e)) hi h)⟩ : ZT (FX (FX (FA mb pb sb) bk19) (w56.heap.size + 1)) pb c r am mb cm n (AC (FX (FX (FA mb pb sb) bk19) (w56.heap.size + 1)) (fun t u => asgP r xs0 t.ms (rows.length + 1) u) (max up rows.length) mb pb sb bk19 rows w56) x _)⟩⟩
    refine go ?_
    refine y_sliceTo (rows.length) underlying84 sizeOf38 rfl rfl rfl rfl (by rw [List.length_append, List.length_singleton]; omega) (by have := hpl2.acc.cap_le; rw [List.length_append, List.length_singleton] at this; omega) (y_same 58 (v := .slice ap2 rows.length cp2) rfl (by rw [hpl2.acc.sub0 (by simp)]) ?_)
    refine go ?_
    refine x_s fun w148 sw148 B150 u149 => ?_
    try have Y151 := Sc.mk (Y140.u.next u149 (fun i hi (h : i = sb) => show TP (FA mb pb sb) pb w0 i by first | omega | assumption | exact TP.back (Sc.u (by assumption)) hi h | exact TP.back (Sc.u (by assumption)) hi (TP.unfx h (by omega)) | exact Or.inl (by rw [h]; assumption) | exact h.elim (fun h => TP.back uPB.u hi h.fx) (fun h => by omega) | exact Or.inr ⟨h.2, h.1 ▸ hpl9.acc.blkT (h.1 ▸ h.2)⟩))
    refine go ?_
    have hUr := (((((((((Upd.refl (fun i => TP (FX (FA mb pb sb) bk19) pb w78 i) w78).nx u90).nx u95).next u103 (fun i hi (h : (i = gp9 ∧ pb ≤ i)) => show TP (FX (FA mb pb sb) bk19) pb w78 i by first | omega | assumption | exact TP.back (Sc.u (by assumption)) hi h | exact TP.back (Sc.u (by assumption)) hi (TP.unfx h (by omega)) | exact Or.inl (by rw [h]; assumption) | exact h.elim (fun h => TP.back uPB.u hi h.fx) (fun h => by omega) | exact Or.inr ⟨h.2, h.1 ▸ hpl9.acc.blkT (h.1 ▸ h.2)⟩)).next u107 (fun i hi (h : i = sb) => show TP (FX (FA mb pb sb) bk19) pb w78 i by first | omega | assumption | exact TP.back (Sc.u (by assumption)) hi h | exact TP.back (Sc.u (by assumption)) hi (TP.unfx h (by omega)) | exact Or.inl (by rw [h]; assumption) | exact h.elim (fun h => TP.back uPB.u hi h.fx) (fun h => by omega) | exact Or.inr ⟨h.2, h.1 ▸ hpl9.acc.blkT (h.1 ▸ h.2)⟩)).nx u121).next u128 (fun i hi (h : TQ (FA mb pb sb) pb w106 i) => show TP (FX (FA mb pb sb) bk19) pb w78 i by first | omega | assumption | exact TP.back (Sc.u (by assumption)) hi h | exact TP.back (Sc.u (by assumption)) hi (TP.unfx h (by omega)) | exact Or.inl (by rw [h]; assumption) | exact h.elim (fun h => TP.back uPB.u hi h.fx) (fun h => by omega) | exact Or.inr ⟨h.2, h.1 ▸ hpl9.acc.blkT (h.1 ▸ h.2)⟩)).nx u139).next u149 (fun i hi (h : i = sb) => show TP (FX (FA mb pb sb) bk19) pb w78 i by first | omega | assumption | exact TP.back (Sc.u (by assumption)) hi h | exact TP.back (Sc.u (by assumption)) hi (TP.unfx h (by omega)) | exact Or.inl (by rw [h]; assumption) | exact h.elim (fun h => TP.back uPB.u hi h.fx) (fun h => by omega) | exact Or.inr ⟨h.2, h.1 ▸ hpl9.acc.blkT (h.1 ▸ h.2)⟩))
    have uW : Sc (TP (FX (FX (FA mb pb sb) bk19) (w56.heap.size + 1)) pb w78) _ _ := ⟨hUr.mono (fun i h => h.fx)⟩
    have B152 := ((B131.kx u139).keep u149 (by omega))
    have uT : Sc (· = sb) w127 w148 := ⟨(((Upd.refl (· = sb) _).nx u139).next u149 (fun i hi h => h))⟩
    exact ⟨fun a ha => ⟨KeepsFrom.of_updB hUr hcellsR, (⟨⟨⟨_, _, _, _, tryF_step htr (by show asgP r xs0 (x.hm.map HM.mb) (rows.length + 1) u9 = _; rw [← hA9]; exact Prod.ext hq9 rfl), B150, hpl2.pop.upd uT.u (fun hb e => hpl2.nf hb (.inr e)) (fun q hq hb e => hpl2.pop.mf q hq hb (.inr e))⟩, B152, hY.hc.hu.next uW.u (fun i hi h => TP.back hY.hc.hu hi h)⟩, (hrow2.tpS hp.hsm hp.hcs (.inr rfl) hsb (uT.u.mono fun i e => .inl e)).toF hY.row.row, (hY.upd.mono fun i e => .inl (.inr e)).next uW.u (fun i hi h => TP.back (hY.upd.mono fun i e => .inl (.inr e)) hi h)⟩ : ZT (FX (FX (FA mb pb sb) bk19) (w56.heap.size + 1)) pb c r am mb cm n (AC (FX (FX (FA mb pb sb) bk19) (w56.heap.size + 1)) (fun t u => asgP r xs0 t.ms (rows.length + 1) u) (max up rows.length) mb pb sb bk19 rows w56) x _)⟩⟩
   refine go ?_
   refine x_l fun bk153 w154 ebk153 sbk153 B155 u156 => ?_
   try have Y157 := Sc.mk (Y91.u.nx u156)
   refine go ?_
   have D158 := ((hpl9.acc.keep u90 (fun _ h => h)).keep u156 (fun _ h => h))
   refine t_append (z := .slice none 0 0) (bytes := 24) (k := 1) (base := pb) (HT.hr x) underlying84 (by kernel_rfl) rfl (by decide) (fun _ => rfl) (by intro x; simp [encHRK, Value.oneCell']) rfl rfl rfl rfl D158 B155 (by omega) (by omega) (by decide) (fun ao159 gb160 cp161 w162 A163 u164 gegb160 lngb160 => ?_)
   have zu164 := u164.size
   try have Y165 := Sc.mk (Y157.u.next u164 (fun i hi (h : (i = gp9 ∧ pb ≤ i)) => show TP (FA mb pb sb) pb w0 i by first | omega | assumption | exact TP.back (Sc.u (by assumption)) hi h | exact TP.back (Sc.u (by assumption)) hi (TP.unfx h (by omega)) | exact Or.inl (by rw [h]; assumption) | exact h.elim (fun h => TP.back uPB.u hi h.fx) (fun h => by omega) | exact Or.inr ⟨h.2, h.1 ▸ hpl9.acc.blkT (h.1 ▸ h.2)⟩))
   have lt_gb160 := A163.lt
   refine go ?_
   refine x_s fun w167 sw167 B169 u168 => ?_
   try have Y170 := Sc.mk (Y165.u.next u168 (fun i hi (h : i = sb) => show TP (FA mb pb sb) pb w0 i by first | omega | assumption | exact TP.back (Sc.u (by assumption)) hi h | exact TP.back (Sc.u (by assumption)) hi (TP.unfx h (by omega)) | exact Or.inl (by rw [h]; assumption) | exact h.elim (fun h => TP.back uPB.u hi h.fx) (fun h => by omega) | exact Or.inr ⟨h.2, h.1 ▸ hpl9.acc.blkT (h.1 ▸ h.2)⟩))
   refine go ?_
   have B174 := ((((B81.kx u90).kx u156).keep u164 (by omega)).keep u168 (by omega))
   have nTb173 : ¬ TQ (FA mb pb sb) pb w167 bk4 := TQ.not (Upd.refl _ _) (fun h => by have := (hFAl _ h).2; omega) (by omega) B174 (by decide)
   have B176 := ((((B83.kx u90).kx u156).keep u164 (by omega)).keep u168 (by omega))
   have nTb175 : ¬ TQ (FA mb pb sb) pb w167 bk9 := TQ.not (Upd.refl _ _) (fun h => by have := (hFAl _ h).2; omega) (by omega) B176 (by decide)
   have B178 := ((((B85.kx u90).kx u156).keep u164 (by omega)).keep u168 (by omega))
   have nTb177 : ¬ TQ (FA mb pb sb) pb w167 bk14 := TQ.not (Upd.refl _ _) (fun h => by have := (hFAl _ h).2; omega) (by omega) B178 (by decide)
   have B180 := ((((hY.hc.b6.kx u90).kx u156).keep u164 (by omega)).keep u168 (by omega))
   have nTb179 : ¬ TQ (FA mb pb sb) pb w167 bk19 := TQ.not (Upd.refl _ _) (fun h => by have := (hFAl _ h).2; omega) (by omega) B180 (by decide)
   refine c_drawnM follows (fun i => TQ (FA mb pb sb) pb w167 i) (OTl [0, 2, 4, 6, 9]) (by kernel_rfl) fun w181 u182 => ?_
   have zu182 := u182.size
   try have Y183 := Sc.mk (Y170.u.nx u182)
   refine go ?_
   refine y_sliceFrom (1) underlying74 sizeOf79 rfl rfl rfl rfl rfl (by omega) hp.hcx (y_same 45 (v := .slice (subAddr ax cx 1 7) xs0.length (cx - 1)) rfl (by rw [hxl]; rfl) ?_)
   refine go ?_
   have uQ : Sc (TP (fun i => i = sb) pb w78) w78 w181 := ⟨((((((Upd.refl (TP (fun i => i = sb) pb w78) _).nx u90).nx u156).next u164 (fun i hi h => .inr ⟨h.2, h.1 ▸ hpl9.acc.blkT (h.1 ▸ h.2)⟩)).next u168 (fun i hi h => .inl h)).nx u182)⟩
   have uPB : Sc (TP (FX (FA mb pb sb) bk19) pb w78) w78 w167 := ⟨((((((Upd.refl (TP (fun i => i = sb) pb w78) _).nx u90).nx u156).next u164 (fun i hi h => .inr ⟨h.2, h.1 ▸ hpl9.acc.blkT (h.1 ▸ h.2)⟩)).next u168 (fun i hi h => .inl h))).mono (fun i h => h.elim (fun h => .inl (.inl (.inr h))) .inr)⟩
   have B184 := (B169.kx u182)
   have D185 := ((A163.keep u168 (fun hb => show ¬ (gb160 = sb) by first | omega | assumption)).keep u182 (fun _ h => h))
   have D186 := (((((((D53.keep u57 (fun _ h => h)).keep huR (fun h9 => by show ¬ (TP (FX (FX (FA mb pb sb) bk19) (w56.heap.size + 1)) pb w56 bx); have h8 := (hp.hbx h9).1; have h7 := hp.legs.lt h9; first | omega | exact fun e => h8 (.inr e) | exact hnx h9 | exact hxg h9)).keep u90 (fun _ h => h)).keep u156 (fun _ h => h)).keep u164 (fun h9 => by show ¬ ((bx = gp9 ∧ pb ≤ bx)); have h8 := (hp.hbx h9).1; have h7 := hp.legs.lt h9; first | omega | exact fun e => h8 (.inr e) | exact hnx h9 | exact hxg h9)).keep u168 (fun h9 => by show ¬ (bx = sb); have h8 := (hp.hbx h9).1; have h7 := hp.legs.lt h9; first | omega | exact fun e => h8 (.inr e) | exact hnx h9 | exact hxg h9)).keep u182 (fun _ h => h))
   have hrowQ : RowC (FA mb pb sb) pb c r am mb cm n x.hm w181 := (hY.row.mono fun m hm hb hf => .inl (.inl hf)).tpS hp.hsm hp.hcs (.inr rfl) hsb uQ.u
   have hplQ : PlanM (FA mb pb sb) pb w181 ao159 gb160 cp161 (rows ++ [HT.hr x]) := hpl9.push (.inr rfl) uQ.u D185 (fun hb hf => by
     rcases (show gb160 = gp9 ∨ w0.heap.size ≤ gb160 by omega) with e | e
     · exact hpl9.nf (e ▸ hb) (e ▸ hf)
     · have := (hFAl _ hf).2; omega) hY.num (fun hb hf => hY.nf hb (.inl (.inl hf)))
   have hx1 : Sl encLeg 7 w181 (subAddr ax cx 1 7) bx (ox + 1 * 7) xs0 := by
     have h := (D186).sub cx 1 xs0.length hp.hcx
     rwa [hd1, List.take_length] at h
   have hbx1 : 0 < xs0.length → ¬ (FA mb pb sb) bx ∧ (pb ≤ bx → ∃ t cs, t ≠ 38 ∧ Blk w181 bx t cs) := fun _ => ⟨(hp.hbx hx0).1, fun hb => by
     obtain ⟨t, cs, ht, hB⟩ := hbxR hb
     have h8 := hB.keep hY.hc.hu (hnx hx0)
     exact ⟨t, cs, ht, h8.keep uQ.u (TP.not (fun e => (hp.hbx hx0).1 (.inr e)) h8 ht)⟩⟩
   refine t_call own57 rfl rfl rfl rfl ((ih x0 xs0 hxe r pb c am mb cm n sb _ bx _ _ x.hm _ ao159 gb160 cp161 u9 _ ⟨hp.hr, fun y hy => hp.hxs y (by rw [hxe]; exact List.mem_cons_of_mem _ hy), fun m hm => by have := hY.len m hm; have := hp.hB; omega, hx1, by have := hp.hcx; omega, hbx1, B184, hplQ, hrowQ, hp.hcm, hp.hcs, hsb, hp.hsm, hn6, by rw [List.length_append, List.length_singleton]; omega, ⟨hpb.1, by omega⟩⟩).mono fun _ _ h => AsgR.t h u182) (fun v187 w188 r190 => ?_)
   obtain ⟨rfl, ⟨rows2, ap2, gp2, cp2, hsb2, hpl2, hno2, hso2⟩, hrow2, u189⟩ := r190
   have zu189 := u189.size
   try have Y191 := Sc.mk (Y183.u.next u189 (fun i hi (h : TQ (FA mb pb sb) pb w167 i) => show TP (FA mb pb sb) pb w0 i by first | omega | assumption | exact TP.back (Sc.u (by assumption)) hi h | exact TP.back (Sc.u (by assumption)) hi (TP.unfx h (by omega)) | exact Or.inl (by rw [h]; assumption) | exact h.elim (fun h => TP.back uPB.u hi h.fx) (fun h => by omega) | exact Or.inr ⟨h.2, h.1 ▸ hpl9.acc.blkT (h.1 ▸ h.2)⟩))
   have hA9 : (asgP r xs0 (x.hm.map HM.mb) (rows ++ [HT.hr x]).length u9) = asgP r xs0 (x.hm.map HM.mb) (rows.length + 1) u9 := by rw [List.length_append]; rfl
   have B192 := ((B180.kx u182).keep u189 (show ¬ (TQ (FA mb pb sb) pb w167 bk19) by first | omega | assumption))
   have h6A := B192
   refine s_next ((Upd.refl _ _).next u189 (fun i hi (h : TQ (FA mb pb sb) pb w167 i) => show w181.heap.size ≤ i ∨ (TQ (FA mb pb sb) pb w167 i) by first | omega | exact .inr h)) ?_
   refine go ?_
   refine q_b (fun g46 => ?_) fun g46 => ?_
   ·
    obtain ⟨q9, hq9⟩ := Option.isSome_iff_exists.1 g46
    refine go ?_
    refine x_s fun w194 sw194 B196 u195 => ?_
    try have Y197 := Sc.mk (Y191.u.next u195 (fun i hi (h : i = bk19) => show TP (FA mb pb sb) pb w0 i by first | omega | assumption | exact TP.back (Sc.u (by assumption)) hi h | exact TP.back (Sc.u (by assumption)) hi (TP.unfx h (by omega)) | exact Or.inl (by rw [h]; assumption) | exact h.elim (fun h => TP.back uPB.u hi h.fx) (fun h => by omega) | exact Or.inr ⟨h.2, h.1 ▸ hpl9.acc.blkT (h.1 ▸ h.2)⟩))
    refine go ?_
    have hUr := ((((((((Upd.refl (fun i => TP (FX (FA mb pb sb) bk19) pb w78 i) w78).nx u90).nx u156).next u164 (fun i hi (h : (i = gp9 ∧ pb ≤ i)) => show TP (FX (FA mb pb sb) bk19) pb w78 i by first | omega | assumption | exact TP.back (Sc.u (by assumption)) hi h | exact TP.back (Sc.u (by assumption)) hi (TP.unfx h (by omega)) | exact Or.inl (by rw [h]; assumption) | exact h.elim (fun h => TP.back uPB.u hi h.fx) (fun h => by omega) | exact Or.inr ⟨h.2, h.1 ▸ hpl9.acc.blkT (h.1 ▸ h.2)⟩)).next u168 (fun i hi (h : i = sb) => show TP (FX (FA mb pb sb) bk19) pb w78 i by first | omega | assumption | exact TP.back (Sc.u (by assumption)) hi h | exact TP.back (Sc.u (by assumption)) hi (TP.unfx h (by omega)) | exact Or.inl (by rw [h]; assumption) | exact h.elim (fun h => TP.back uPB.u hi h.fx) (fun h => by omega) | exact Or.inr ⟨h.2, h.1 ▸ hpl9.acc.blkT (h.1 ▸ h.2)⟩)).nx u182).next u189 (fun i hi (h : TQ (FA mb pb sb) pb w167 i) => show TP (FX (FA mb pb sb) bk19) pb w78 i by first | omega | assumption | exact TP.back (Sc.u (by assumption)) hi h | exact TP.back (Sc.u (by assumption)) hi (TP.unfx h (by omega)) | exact Or.inl (by rw [h]; assumption) | exact h.elim (fun h => TP.back uPB.u hi h.fx) (fun h => by omega) | exact Or.inr ⟨h.2, h.1 ▸ hpl9.acc.blkT (h.1 ▸ h.2)⟩)).next u195 (fun i hi (h : i = bk19) => show TP (FX (FA mb pb sb) bk19) pb w78 i by first | omega | assumption | exact TP.back (Sc.u (by assumption)) hi h | exact TP.back (Sc.u (by assumption)) hi (TP.unfx h (by omega)) | exact Or.inl (by rw [h]; assumption) | exact h.elim (fun h => TP.back uPB.u hi h.fx) (fun h => by omega) | exact Or.inr ⟨h.2, h.1 ▸ hpl9.acc.blkT (h.1 ▸ h.2)⟩))
    have uW : Sc (TP (FX (FX (FA mb pb sb) bk19) (w56.heap.size + 1)) pb w78) _ _ := ⟨hUr.mono (fun i h => h.fx)⟩
    have B198 := (hsb2.keep u195 (by omega))
    have uT : Sc (· = bk19) w188 w194 := ⟨((Upd.refl (· = bk19) _).next u195 (fun i hi h => h))⟩
    exact ⟨fun a ha => ⟨KeepsFrom.of_updB hUr hcellsR, (⟨⟨⟨_, _, q9, _, _, _, _, htr, (by show asgP r xs0 (x.hm.map HM.mb) (rows.length + 1) u9 = _; rw [← hA9]; exact Prod.ext hq9 rfl), B198, hpl2.up6 h6A uT.u, by rw [hso2 q9 hq9, List.map_append, List.append_assoc]; rfl⟩, B196, hY.hc.hu.next uW.u (fun i hi h => TP.back hY.hc.hu hi h)⟩, (hrow2.up6 h6A (by omega) uT.u).f0, (hY.upd.mono fun i e => .inl (.inr e)).next uW.u (fun i hi h => TP.back (hY.upd.mono fun i e => .inl (.inr e)) hi h)⟩ : FT (FX (FX (FA mb pb sb) bk19) (w56.heap.size + 1)) pb c r am mb cm n (AF (FX (FX (FA mb pb sb) bk19) (w56.heap.size + 1)) (fun t u => asgP r xs0 t.ms (rows.length + 1) u) (max up rows.length) mb pb sb bk19 rows w56) id x _)⟩⟩
   have hq9 := Option.not_isSome_iff_eq_none.1 (fun h => by rw [h] at g46; cases g46)
   have hr2 := hno2 hq9
   rw [hr2] at hsb2 hpl2
   have lt_gp2 := hpl2.acc.lt
   refine go ?_
   refine c_drawnM follows (fun i => i = sb) (.look 0 (.look 1 (.look 2 (.look 3 (.look 5 (.look 6 (.look 7 (.act 4 (.act 8 (.look 9 (.look 10 (.look 11 (.look 12 (.look 13 (.act 14 .done .stop)))))) .stop) (.act 8 (.look 9 (.look 10 (.act 4 (.look 11 (.look 12 (.look 13 (.act 14 .done .stop)))) .stop))) .stop))))))))) (by kernel_rfl) fun w199 u200 => ?_
   have zu200 := u200.size
   try have Y201 := Sc.mk (Y191.u.nx u200)
   refine go ?_
   refine s_or ?_ ?_
   ·
    refine go ?_
    refine y_sliceTo (rows.length) underlying84 sizeOf38 rfl rfl rfl rfl (by rw [List.length_append, List.length_singleton]; omega) (by have := hpl2.acc.cap_le; rw [List.length_append, List.length_singleton] at this; omega) (y_same 58 (v := .slice ap2 rows.length cp2) rfl (by rw [hpl2.acc.sub0 (by simp)]) ?_)
    refine go ?_
    refine x_s fun w203 sw203 B205 u204 => ?_
    try have Y206 := Sc.mk (Y201.u.next u204 (fun i hi (h : i = sb) => show TP (FA mb pb sb) pb w0 i by first | omega | assumption | exact TP.back (Sc.u (by assumption)) hi h | exact TP.back (Sc.u (by assumption)) hi (TP.unfx h (by omega)) | exact Or.inl (by rw [h]; assumption) | exact h.elim (fun h => TP.back uPB.u hi h.fx) (fun h => by omega) | exact Or.inr ⟨h.2, h.1 ▸ hpl9.acc.blkT (h.1 ▸ h.2)⟩))
    refine go ?_
    have hUr := (((((((((Upd.refl (fun i => TP (FX (FA mb pb sb) bk19) pb w78 i) w78).nx u90).nx u156).next u164 (fun i hi (h : (i = gp9 ∧ pb ≤ i)) => show TP (FX (FA mb pb sb) bk19) pb w78 i by first | omega | assumption | exact TP.back (Sc.u (by assumption)) hi h | exact TP.back (Sc.u (by assumption)) hi (TP.unfx h (by omega)) | exact Or.inl (by rw [h]; assumption) | exact h.elim (fun h => TP.back uPB.u hi h.fx) (fun h => by omega) | exact Or.inr ⟨h.2, h.1 ▸ hpl9.acc.blkT (h.1 ▸ h.2)⟩)).next u168 (fun i hi (h : i = sb) => show TP (FX (FA mb pb sb) bk19) pb w78 i by first | omega | assumption | exact TP.back (Sc.u (by assumption)) hi h | exact TP.back (Sc.u (by assumption)) hi (TP.unfx h (by omega)) | exact Or.inl (by rw [h]; assumption) | exact h.elim (fun h => TP.back uPB.u hi h.fx) (fun h => by omega) | exact Or.inr ⟨h.2, h.1 ▸ hpl9.acc.blkT (h.1 ▸ h.2)⟩)).nx u182).next u189 (fun i hi (h : TQ (FA mb pb sb) pb w167 i) => show TP (FX (FA mb pb sb) bk19) pb w78 i by first | omega | assumption | exact TP.back (Sc.u (by assumption)) hi h | exact TP.back (Sc.u (by assumption)) hi (TP.unfx h (by omega)) | exact Or.inl (by rw [h]; assumption) | exact h.elim (fun h => TP.back uPB.u hi h.fx) (fun h => by omega) | exact Or.inr ⟨h.2, h.1 ▸ hpl9.acc.blkT (h.1 ▸ h.2)⟩)).nx u200).next u204 (fun i hi (h : i = sb) => show TP (FX (FA mb pb sb) bk19) pb w78 i by first | omega | assumption | exact TP.back (Sc.u (by assumption)) hi h | exact TP.back (Sc.u (by assumption)) hi (TP.unfx h (by omega)) | exact Or.inl (by rw [h]; assumption) | exact h.elim (fun h => TP.back uPB.u hi h.fx) (fun h => by omega) | exact Or.inr ⟨h.2, h.1 ▸ hpl9.acc.blkT (h.1 ▸ h.2)⟩))
    have uW : Sc (TP (FX (FX (FA mb pb sb) bk19) (w56.heap.size + 1)) pb w78) _ _ := ⟨hUr.mono (fun i h => h.fx)⟩
    have B207 := ((B192.kx u200).keep u204 (by omega))
    have uT : Sc (· = sb) w188 w203 := ⟨(((Upd.refl (· = sb) _).nx u200).next u204 (fun i hi h => h))⟩
    exact ⟨fun a ha => ⟨KeepsFrom.of_updB hUr hcellsR, (⟨⟨⟨_, _, _, _, tryF_step htr (by show asgP r xs0 (x.hm.map HM.mb) (rows.length + 1) u9 = _; rw [← hA9]; exact Prod.ext hq9 rfl), B205, hpl2.pop.upd uT.u (fun hb e => hpl2.nf hb (.inr e)) (fun q hq hb e => hpl2.pop.mf q hq hb (.inr e))⟩, B207, hY.hc.hu.next uW.u (fun i hi h => TP.back hY.hc.hu hi h)⟩, (hrow2.tpS hp.hsm hp.hcs (.inr rfl) hsb (uT.u.mono fun i e => .inl e)).toF hY.row.row, (hY.upd.mono fun i e => .inl (.inr e)).next uW.u (fun i hi h => TP.back (hY.upd.mono fun i e => .inl (.inr e)) hi h)⟩ : ZT (FX (FX (FA mb pb sb) bk19) (w56.heap.size + 1)) pb c r am mb cm n (AC (FX (FX (FA mb pb sb) bk19) (w56.heap.size + 1)) (fun t u => asgP r xs0 t.ms (rows.length + 1) u) (max up rows.length) mb pb sb bk19 rows w56) x _)⟩⟩
   refine go ?_
   refine y_sliceTo (rows.length) underlying84 sizeOf38 rfl rfl rfl rfl (by rw [List.length_append, List.length_singleton]; omega) (by have := hpl2.acc.cap_le; rw [List.length_append, List.length_singleton] at this; omega) (y_same 58 (v := .slice ap2 rows.length cp2) rfl (by rw [hpl2.acc.sub0 (by simp)]) ?_)
   refine go ?_
   refine x_s fun w209 sw209 B211 u210 => ?_
   try have Y212 := Sc.mk (Y201.u.next u210 (fun i hi (h : i = sb) => show TP (FA mb pb sb) pb w0 i by first | omega | assumption | exact TP.back (Sc.u (by assumption)) hi h | exact TP.back (Sc.u (by assumption)) hi (TP.unfx h (by omega)) | exact Or.inl (by rw [h]; assumption) | exact h.elim (fun h => TP.back uPB.u hi h.fx) (fun h => by omega) | exact Or.inr ⟨h.2, h.1 ▸ hpl9.acc.blkT (h.1 ▸ h.2)⟩))
   refine go ?_
   have hUr := (((((((((Upd.refl (fun i => TP (FX (FA mb pb sb) bk19) pb w78 i) w78).nx u90).nx u156).next u164 (fun i hi (h : (i = gp9 ∧ pb ≤ i)) => show TP (FX (FA mb pb sb) bk19) pb w78 i by first | omega | assumption | exact TP.back (Sc.u (by assumption)) hi h | exact TP.back (Sc.u (by assumption)) hi (TP.unfx h (by omega)) | exact Or.inl (by rw [h]; assumption) | exact h.elim (fun h => TP.back uPB.u hi h.fx) (fun h => by omega) | exact Or.inr ⟨h.2, h.1 ▸ hpl9.acc.blkT (h.1 ▸ h.2)⟩)).next u168 (fun i hi (h : i = sb) => show TP (FX (FA mb pb sb) bk19) pb w78 i by first | omega | assumption | exact TP.back (Sc.u (by assumption)) hi h | exact TP.back (Sc.u (by assumption)) hi (TP.unfx h (by omega)) | exact Or.inl (by rw [h]; assumption) | exact h.elim (fun h => TP.back uPB.u hi h.fx) (fun h => by omega) | exact Or.inr ⟨h.2, h.1 ▸ hpl9.acc.blkT (h.1 ▸ h.2)⟩)).nx u182).next u189 (fun i hi (h : TQ (FA mb pb sb) pb w167 i) => show TP (FX (FA mb pb sb) bk19) pb w78 i by first | omega | assumption | exact TP.back (Sc.u (by assumption)) hi h | exact TP.back (Sc.u (by assumption)) hi (TP.unfx h (by omega)) | exact Or.inl (by rw [h]; assumption) | exact h.elim (fun h => TP.back uPB.u hi h.fx) (fun h => by omega) | exact Or.inr ⟨h.2, h.1 ▸ hpl9.acc.blkT (h.1 ▸ h.2)⟩)).nx u200).next u210 (fun i hi (h : i = sb) => show TP (FX (FA mb pb sb) bk19) pb w78 i by first | omega | assumption | exact TP.back (Sc.u (by assumption)) hi h | exact TP.back (Sc.u (by assumption)) hi (TP.unfx h (by omega)) | exact Or.inl (by rw [h]; assumption) | exact h.elim (fun h => TP.back uPB.u hi h.fx) (fun h => by omega) | exact Or.inr ⟨h.2, h.1 ▸ hpl9.acc.blkT (h.1 ▸ h.2)⟩))
   have uW : Sc (TP (FX (FX (FA mb pb sb) bk19) (w56.heap.size + 1)) pb w78) _ _ := ⟨hUr.mono (fun i h => h.fx)⟩
   have B213 := ((B192.kx u200).keep u210 (by omega))
   have uT : Sc (· = sb) w188 w209 := ⟨(((Upd.refl (· = sb) _).nx u200).next u210 (fun i hi h => h))⟩
   exact ⟨fun a ha => ⟨KeepsFrom.of_updB hUr hcellsR, (⟨⟨⟨_, _, _, _, tryF_step htr (by show asgP r xs0 (x.hm.map HM.mb) (rows.length + 1) u9 = _; rw [← hA9]; exact Prod.ext hq9 rfl), B211, hpl2.pop.upd uT.u (fun hb e => hpl2.nf hb (.inr e)) (fun q hq hb e => hpl2.pop.mf q hq hb (.inr e))⟩, B213, hY.hc.hu.next uW.u (fun i hi h => TP.back hY.hc.hu hi h)⟩, (hrow2.tpS hp.hsm hp.hcs (.inr rfl) hsb (uT.u.mono fun i e => .inl e)).toF hY.row.row, (hY.upd.mono fun i e => .inl (.inr e)).next uW.u (fun i hi h => TP.back (hY.upd.mono fun i e => .inl (.inr e)) hi h)⟩ : ZT (FX (FX (FA mb pb sb) bk19) (w56.heap.size + 1)) pb c r am mb cm n (AC (FX (FX (FA mb pb sb) bk19) (w56.heap.size + 1)) (fun t u => asgP r xs0 t.ms (rows.length + 1) u) (max up rows.length) mb pb sb bk19 rows w56) x _)⟩⟩
  ·
   have D216 := (((((((((show Marks w0.heap.size [] w0 from trivial).keepB u7 (CellsB.of (CellsIn.none _))).keepB u12 (CellsB.of (CellsIn.none _))).keepB u17 (CellsB.of (CellsIn.none _))).keepB u22 (CellsB.of (CellsIn.none _))).keepB u26 (CellsB.of (CellsIn.none _))).keepB u30 (CellsB.of (B28).cellsIn)).keepB u51 (CellsB.of (CellsIn.none _))).keepB u57 (CellsB.of (CellsIn.none _)))
   have hmk0 := D216
   have hmc0 := (TP.cellsB6 (F := (FA mb pb sb)) (pb := pb) (B := w0.heap.size) (w := w56) (fun i h => (hFAl i h).2) B60)
   intro D215 w214 hD215 hE hdD215
   have hu9 : Sc (TP (FX (FA mb pb sb) bk19) pb w56) w56 w214 := ⟨⟨hE.hu.os, hE.hu.tape, hE.hu.output, hE.hu.size, fun k hk hn => hE.hu.block k hk (fun h => hn (h.unfx (by omega)))⟩⟩
   have zhu9 := hu9.u.size
   try have Y217 := Sc.mk (Y59.u.next hu9.u (fun i hi (h : TP (FX (FA mb pb sb) bk19) pb w56 i) => show TP (FA mb pb sb) pb w0 i by first | omega | assumption | exact TP.back (Sc.u (by assumption)) hi h | exact TP.back (Sc.u (by assumption)) hi (TP.unfx h (by omega)) | exact Or.inl (by rw [h]; assumption) | exact h.elim (fun h => TP.back uPB.u hi h.fx) (fun h => by omega) | exact Or.inr ⟨h.2, h.1 ▸ hpl9.acc.blkT (h.1 ▸ h.2)⟩))
   obtain ⟨pr9, v9, po9, e9, hAF9⟩ := hE.hi
   obtain ⟨u1E, uE, qE, rowsE, apE, gpE, cpE, htE, hfE, hsbE, hplE, hmE⟩ := hAF9.ex
   have mk218 := (hmk0.keepB hu9.u hmc0).push (D := D215) (by omega) hdD215 (fun d hd D' e => Nat.lt_of_lt_of_le (hmk0.lt d hd D' e) hD215)
   refine go ?_
   have hrowE : RowC (FA mb pb sb) pb c r am mb cm n ms _ := hE.row.toF hp.row.row
   have hmkE := mk218
   refine f_retMc1 (v := .bool true) results57 (.cell mk218 rfl isAgg4 hAF9.b6 rfl) mk218 (fun w219 u220 omw219 => ?_)
   have zu220 := u220.size
   try have Y221 := Sc.mk (Y217.u.next u220 (fun i hi (h : w0.heap.size ≤ i) => show TP (FA mb pb sb) pb w0 i by first | omega | assumption | exact TP.back (Sc.u (by assumption)) hi h | exact TP.back (Sc.u (by assumption)) hi (TP.unfx h (by omega)) | exact Or.inl (by rw [h]; assumption) | exact h.elim (fun h => TP.back uPB.u hi h.fx) (fun h => by omega) | exact Or.inr ⟨h.2, h.1 ▸ hpl9.acc.blkT (h.1 ▸ h.2)⟩))
   have hres := tryF_hit (post := po9) htE hfE
   rw [← e9, ← hasg] at hres
   rw [hres]
   exact ⟨rfl, ⟨rowsE, apE, gpE, cpE, hsbE.keep omw219 (hmkE.notBlk hsbE), (hplE).bent omw219 (fun i hi => (hmkE.bent i hi).2), fun h => (by cases h), fun p h => by
     injection h with h; subst h; exact hmE⟩, (RowC.bent (B := w0.heap.size) (by omega) _ _ _ _ (hrowE) omw219 hmkE.bent), Y221.u⟩
  ·
   have D224 := (((((((((show Marks w0.heap.size [] w0 from trivial).keepB u7 (CellsB.of (CellsIn.none _))).keepB u12 (CellsB.of (CellsIn.none _))).keepB u17 (CellsB.of (CellsIn.none _))).keepB u22 (CellsB.of (CellsIn.none _))).keepB u26 (CellsB.of (CellsIn.none _))).keepB u30 (CellsB.of (B28).cellsIn)).keepB u51 (CellsB.of (CellsIn.none _))).keepB u57 (CellsB.of (CellsIn.none _)))
   have hmk0 := D224
   have hmc0 := (TP.cellsB6 (F := (FA mb pb sb)) (pb := pb) (B := w0.heap.size) (w := w56) (fun i h => (hFAl i h).2) B60)
   intro D223 w222 hD223 hE hdD223
   have hu9 : Sc (TP (FX (FA mb pb sb) bk19) pb w56) w56 w222 := ⟨⟨hE.hu.os, hE.hu.tape, hE.hu.output, hE.hu.size, fun k hk hn => hE.hu.block k hk (fun h => hn (h.unfx (by omega)))⟩⟩
   have zhu9 := hu9.u.size
   try have Y225 := Sc.mk (Y59.u.next hu9.u (fun i hi (h : TP (FX (FA mb pb sb) bk19) pb w56 i) => show TP (FA mb pb sb) pb w0 i by first | omega | assumption | exact TP.back (Sc.u (by assumption)) hi h | exact TP.back (Sc.u (by assumption)) hi (TP.unfx h (by omega)) | exact Or.inl (by rw [h]; assumption) | exact h.elim (fun h => TP.back uPB.u hi h.fx) (fun h => by omega) | exact Or.inr ⟨h.2, h.1 ▸ hpl9.acc.blkT (h.1 ▸ h.2)⟩))
   obtain ⟨uE, apE, gpE, cpE, htE, hsbE, hplE⟩ := hE.hi.ex
   have mk226 := (hmk0.keepB hu9.u hmc0).push (D := D223) (by omega) hdD223 (fun d hd D' e => Nat.lt_of_lt_of_le (hmk0.lt d hd D' e) hD223)
   refine go ?_
   have k228 := hE.hi.b6
   refine x_s fun w229 sw229 B231 u230 => ?_
   try have Y232 := Sc.mk (Y225.u.next u230 (fun i hi (h : i = bk19) => show TP (FA mb pb sb) pb w0 i by first | omega | assumption | exact TP.back (Sc.u (by assumption)) hi h | exact TP.back (Sc.u (by assumption)) hi (TP.unfx h (by omega)) | exact Or.inl (by rw [h]; assumption) | exact h.elim (fun h => TP.back uPB.u hi h.fx) (fun h => by omega) | exact Or.inr ⟨h.2, h.1 ▸ hpl9.acc.blkT (h.1 ▸ h.2)⟩))
   refine go ?_
   have B233 := (hsbE.keep u230 (by omega))
   have uT : Sc (· = bk19) w222 w229 := ⟨((Upd.refl (· = bk19) _).next u230 (fun i hi h => h))⟩
   have hrowE : RowC (FA mb pb sb) pb c r am mb cm n ms w229 := (hE.row.toF hp.row.row).up6 hE.hi.b6 (by omega) uT.u
   have hplE9 := hplE.up6 hE.hi.b6 uT.u
   have D236 := (mk226.keepB u230 (CellsB.of (k228).cellsIn))
   have hmkE := D236
   refine f_retMc1 (v := .bool false) results57 (.cell D236 rfl isAgg4 B231 rfl) D236 (fun w234 u235 omw234 => ?_)
   have zu235 := u235.size
   try have Y237 := Sc.mk (Y232.u.next u235 (fun i hi (h : w0.heap.size ≤ i) => show TP (FA mb pb sb) pb w0 i by first | omega | assumption | exact TP.back (Sc.u (by assumption)) hi h | exact TP.back (Sc.u (by assumption)) hi (TP.unfx h (by omega)) | exact Or.inl (by rw [h]; assumption) | exact h.elim (fun h => TP.back uPB.u hi h.fx) (fun h => by omega) | exact Or.inr ⟨h.2, h.1 ▸ hpl9.acc.blkT (h.1 ▸ h.2)⟩))
   rw [← hasg] at htE
   rw [htE]
   exact ⟨rfl, ⟨rows, apE, gpE, cpE, B233.keep omw234 (hmkE.notBlk B233), (hplE9).bent omw234 (fun i hi => (hmkE.bent i hi).2), fun _ => rfl, fun p h => (by cases h)⟩, (RowC.bent (B := w0.heap.size) (by omega) _ _ _ _ (hrowE) omw234 hmkE.bent), Y237.u⟩
 refine go ?_
 refine y_max rfl rfl rfl rfl ?_
 refine go ?_
 have B238 := (((((k1.kx u7).kx u12).kx u17).kx u22).kx u26)
 refine x_s fun w239 sw239 B241 u240 => ?_
 try have Y242 := Sc.mk (Y27.u.next u240 (fun i hi (h : i = sb) => show TP (FA mb pb sb) pb w0 i by first | omega | assumption | exact TP.back (Sc.u (by assumption)) hi h | exact TP.back (Sc.u (by assumption)) hi (TP.unfx h (by omega)) | exact Or.inl (by rw [h]; assumption) | exact h.elim (fun h => TP.back uPB.u hi h.fx) (fun h => by omega) | exact Or.inr ⟨h.2, h.1 ▸ hpl9.acc.blkT (h.1 ▸ h.2)⟩))
 refine go ?_
 refine q_p (fun g23 => ?_) fun g23 => ?_
 ·
  have B245 : Blk w239 sb 164 [.slice ap rows.length cp, .int .i64 (((max up rows.length) : Nat) : Int)] := by
    have e : ([.slice ap rows.length cp, .int .i64 (max (up : Int) (rows.length : Int))] : List Value) = [.slice ap rows.length cp, .int .i64 (((max up rows.length) : Nat) : Int)] := (by rw [show (((max up rows.length) : Nat) : Int) = max (up : Int) (rows.length : Int) by omega])
    rw [← e]; exact B241
  refine go ?_
  have B247 := ((B21.kx u26).keep u240 (by omega))
  refine x_s fun w248 sw248 B250 u249 => ?_
  try have Y251 := Sc.mk (Y242.u.next u249 (fun i hi (h : i = bk19) => show TP (FA mb pb sb) pb w0 i by first | omega | assumption | exact TP.back (Sc.u (by assumption)) hi h | exact TP.back (Sc.u (by assumption)) hi (TP.unfx h (by omega)) | exact Or.inl (by rw [h]; assumption) | exact h.elim (fun h => TP.back uPB.u hi h.fx) (fun h => by omega) | exact Or.inr ⟨h.2, h.1 ▸ hpl9.acc.blkT (h.1 ▸ h.2)⟩))
  refine go ?_
  have B252 := (B245.keep u249 (by omega))
  have uS : Sc (· = sb) w0 w248 := ⟨((((((((Upd.refl (· = sb) _).nx u7).nx u12).nx u17).nx u22).nx u26).next u240 (fun i hi h => h)).next u249 (fun i hi h => by omega))⟩
  have hrowE : RowC (FA mb pb sb) pb c r am mb cm n ms w248 := hp.row.tpS hp.hsm hp.hcs (.inr rfl) hsb (uS.u.mono fun i e => .inl e)
  have hplE : PlanM (FA mb pb sb) pb w248 ap gp cp rows := hp.plan.upd uS.u (fun hb e => hp.plan.nf hb (.inr e)) (fun q hq hb e => hp.plan.mf q hq hb (.inr e))
  have D255 := ((((((((show Marks w0.heap.size [] w0 from trivial).keepB u7 (CellsB.of (CellsIn.none _))).keepB u12 (CellsB.of (CellsIn.none _))).keepB u17 (CellsB.of (CellsIn.none _))).keepB u22 (CellsB.of (CellsIn.none _))).keepB u26 (CellsB.of (CellsIn.none _))).keepB u240 (CellsB.of (B238).cellsIn)).keepB u249 (CellsB.of (B247).cellsIn))
  have hmkE := D255
  refine f_retMc1 (v := .bool true) results57 (.cell D255 rfl isAgg4 B250 rfl) D255 (fun w253 u254 omw253 => ?_)
  have zu254 := u254.size
  try have Y256 := Sc.mk (Y251.u.next u254 (fun i hi (h : w0.heap.size ≤ i) => show TP (FA mb pb sb) pb w0 i by first | omega | assumption | exact TP.back (Sc.u (by assumption)) hi h | exact TP.back (Sc.u (by assumption)) hi (TP.unfx h (by omega)) | exact Or.inl (by rw [h]; assumption) | exact h.elim (fun h => TP.back uPB.u hi h.fx) (fun h => by omega) | exact Or.inr ⟨h.2, h.1 ▸ hpl9.acc.blkT (h.1 ▸ h.2)⟩))
  have hx0 : xs = [] := List.eq_nil_of_length_eq_zero (by omega)
  subst hx0
  exact ⟨rfl, ⟨rows, ap, gp, cp, B252.keep omw253 (hmkE.notBlk B252), (hplE).bent omw253 (fun i hi => (hmkE.bent i hi).2), fun h => (by cases h), fun p h => by
    injection h with h; subst h; rw [List.append_nil]⟩, (RowC.bent (B := w0.heap.size) (by omega) _ _ _ _ (hrowE) omw253 hmkE.bent), Y256.u⟩
 have B257 : Blk w239 sb 164 [.slice ap rows.length cp, .int .i64 (((max up rows.length) : Nat) : Int)] := by
   have e : ([.slice ap rows.length cp, .int .i64 (max (up : Int) (rows.length : Int))] : List Value) = [.slice ap rows.length cp, .int .i64 (((max up rows.length) : Nat) : Int)] := (by rw [show (((max up rows.length) : Nat) : Int) = max (up : Int) (rows.length : Int) by omega])
   rw [← e]; exact B241
 have hx0 : 0 < xs.length := by omega
 obtain ⟨x0, xs0, hxe⟩ : ∃ a b, xs = a :: b := List.exists_cons_of_length_pos hx0
 have hxl : xs.length = xs0.length + 1 := by rw [hxe]; rfl
 have hd1 : xs.drop 1 = xs0 := by rw [hxe]; rfl
 have hasg : ∀ ms k u, asgP r xs ms k u = tryF (fun t u => asgP r xs0 t.ms (k + 1) u) (teamsP r (nth xs 0) (nth xs 0).h.toNat 0 [] 0 ms) (max u k) := fun ms k u => by rw [hxe]; rfl
 refine go ?_
 refine c_drawnM follows (fun _ => False) (OTl [0, 2, 4, 6, 8, 11]) (by kernel_rfl) fun w260 u261 => ?_
 have zu261 := u261.size
 try have Y262 := Sc.mk (Y242.u.nx u261)
 refine go ?_
 have D263 := (((((((hp.legs.keep u7 (fun _ h => h)).keep u12 (fun _ h => h)).keep u17 (fun _ h => h)).keep u22 (fun _ h => h)).keep u26 (fun _ h => h)).keep u240 (fun h9 => by show ¬ (bx = sb); have h8 := (hp.hbx h9).1; have h7 := hp.legs.lt h9; first | omega | exact fun e => h8 (.inr e) | exact hnx h9 | exact hxg h9)).keep u261 (fun _ h => h))
 refine y_i 0 D263 (fun _ => ?_)
 refine go ?_
 refine x_c func124 rfl rfl (teams_c c (nth xs 0) 0 [] none 0 0 _) ?_
 rintro _ w266 ⟨⟨bT7, bT5, bT6, bT4, rfl, hT7, hT5, hT6, hT4, gT7, gT5, gT6, gT4⟩, u267⟩ zu267
 try have Y269 := Sc.mk (Y262.u.nx u267)
 refine go ?_
 have hP0 : Sc (TP (FA mb pb sb) pb w0) w0 w266 := ⟨Y269.u⟩
 have uS : Sc (· = sb) w0 w266 := ⟨(((((((((Upd.refl (· = sb) _).nx u7).nx u12).nx u17).nx u22).nx u26).next u240 (fun i hi h => h)).nx u261).nx u267)⟩
 have B270 := ((((B21.kx u26).keep u240 (by omega)).kx u261).kx u267)
 have B271 := ((B257.kx u261).kx u267)
 have hrowR : RowC (FA mb pb sb) pb c r am mb cm n ms w266 := hp.row.tpS hp.hsm hp.hcs (.inr rfl) hsb (uS.u.mono fun i e => .inl e)
 have hplR : PlanM (FA mb pb sb) pb w266 ap gp cp rows := hp.plan.upd uS.u (fun hb e => hp.plan.nf hb (.inr e)) (fun q hq hb e => hp.plan.mf q hq hb (.inr e))
 have l6 := B270.lt
 have hx30 := okLeg_ok (hp.hxs _ (nth_mem hx0))
 have hbxR : pb ≤ bx → ∃ t cs, t ≠ 38 ∧ Blk w266 bx t cs := fun hb => by
   obtain ⟨t, cs, ht, hB⟩ := (hp.hbx hx0).2 hb
   exact ⟨t, cs, ht, hB.keep uS.u (fun e => (hp.hbx hx0).1 (.inr e))⟩
 have hnx : 0 < xs.length → ¬ TP (FX (FX (FA mb pb sb) bk19) (w266.heap.size + 1)) pb w266 bx := fun h => by
   have h6 := hp.legs.lt h
   rintro (q | ⟨q, cs, hb⟩)
   · exact q.elim (fun q => q.elim (hp.hbx h).1 (fun e => by omega)) (fun e => by omega)
   · obtain ⟨t, cs', ht, hb'⟩ := hbxR q
     exact TP.not (F := F0) (fun h => h) hb' ht (.inr ⟨q, cs, hb⟩)
 have B273 := (((((((B6.kx u12).kx u17).kx u22).kx u26).keep u240 (by omega)).kx u261).kx u267)
 have nTb272 : ¬ TP (FX (FX (FA mb pb sb) bk19) (w266.heap.size + 1)) pb w266 bk4 := TP.not (fun h => h.elim (fun h => h.elim (fun h => by have := (hFAl _ h).2; omega) (fun e => by omega)) (fun e => by omega)) B273 (by decide)
 have B275 := ((((((B11.kx u17).kx u22).kx u26).keep u240 (by omega)).kx u261).kx u267)
 have nTb274 : ¬ TP (FX (FX (FA mb pb sb) bk19) (w266.heap.size + 1)) pb w266 bk9 := TP.not (fun h => h.elim (fun h => h.elim (fun h => by have := (hFAl _ h).2; omega) (fun e => by omega)) (fun e => by omega)) B275 (by decide)
 have B277 := (((((B16.kx u22).kx u26).keep u240 (by omega)).kx u261).kx u267)
 have nTb276 : ¬ TP (FX (FX (FA mb pb sb) bk19) (w266.heap.size + 1)) pb w266 bk14 := TP.not (fun h => h.elim (fun h => h.elim (fun h => by have := (hFAl _ h).2; omega) (fun e => by omega)) (fun e => by omega)) B277 (by decide)
 have hFi : ∀ i, (FX (FX (FA mb pb sb) bk19) (w266.heap.size + 1)) i → pb ≤ i ∧ i < w266.heap.size + 2 := fun i h => h.elim (fun h => h.elim (fun h => ⟨(hFAl _ h).1, by have := (hFAl _ h).2; omega⟩) (fun e => ⟨by omega, by omega⟩)) (fun e => ⟨by omega, by omega⟩)
 have hFm : pb ≤ mb → (FX (FX (FA mb pb sb) bk19) (w266.heap.size + 1)) mb := fun h => .inl (.inl (.inl ⟨rfl, h⟩))
 have h6m : pb ≤ mb → mb ≠ bk19 := hrowR.row.acc.neBlk B270 (by decide)
 have hFB : ∀ i, (FX (FA mb pb sb) bk19) i → i < w266.heap.size := fun i h => h.elim (fun h => by have := (hFAl _ h).2; omega) (fun e => by omega)
 have lT7 := hT7.lt
 have lT5 := hT5.lt
 have lT4 := hT4.lt
 refine WC.weak [(3, .pointer (some ⟨bk4, 0, none⟩)), (4, .pointer (some ⟨bk9, 0, none⟩)), (5, .pointer (some ⟨bk14, 0, none⟩)), (6, .pointer (some ⟨bk19, 0, none⟩)), (29, .func (.func 186) #[] #[.pointer (some ⟨bT7, 0, none⟩), .pointer (some ⟨bT5, 0, none⟩), .pointer (some ⟨bT6, 0, none⟩), .pointer (some ⟨bT4, 0, none⟩)])] ⟨rfl, rfl, rfl, rfl, rfl, trivial⟩ (c_rangeL (γ := HT) (δ := Nat) (lb := [.pointer (some ⟨bT7, 0, none⟩), .pointer (some ⟨bT5, 0, none⟩), .pointer (some ⟨bT6, 0, none⟩), .pointer (some ⟨bT4, 0, none⟩)]) (enc := encHT) own186 rfl rfl (YT (FX (FX (FA mb pb sb) bk19) (w266.heap.size + 1)) pb c r am mb cm n (90 - 3 * xs0.length) w266.heap.size (AC (FX (FX (FA mb pb sb) bk19) (w266.heap.size + 1)) (fun t u => asgP r xs0 t.ms (rows.length + 1) u) (max up rows.length) mb pb sb bk19 rows w266)) (ZT (FX (FX (FA mb pb sb) bk19) (w266.heap.size + 1)) pb c r am mb cm n (AC (FX (FX (FA mb pb sb) bk19) (w266.heap.size + 1)) (fun t u => asgP r xs0 t.ms (rows.length + 1) u) (max up rows.length) mb pb sb bk19 rows w266)) (FT (FX (FX (FA mb pb sb) bk19) (w266.heap.size + 1)) pb c r am mb cm n (AF (FX (FX (FA mb pb sb) bk19) (w266.heap.size + 1)) (fun t u => asgP r xs0 t.ms (rows.length + 1) u) (max up rows.length) mb pb sb bk19 rows w266) id) (EX (FX (FX (FA mb pb sb) bk19) (w266.heap.size + 1)) (FX (FX (FA mb pb sb) bk19) (w266.heap.size + 1)) pb c r am mb cm n w266 (AC (FX (FX (FA mb pb sb) bk19) (w266.heap.size + 1)) (fun t u => asgP r xs0 t.ms (rows.length + 1) u) (max up rows.length) mb pb sb bk19 rows w266 (teamsP r (nth xs 0) (nth xs 0).h.toNat 0 [] 0 (ms.map HM.mb))) ms) (EX (FX (FX (FA mb pb sb) bk19) (w266.heap.size + 1)) F0 pb c r am mb cm n w266 (EndT (teamsP r (nth xs 0) (nth xs 0).h.toNat 0 [] 0 (ms.map HM.mb)) (AF (FX (FX (FA mb pb sb) bk19) (w266.heap.size + 1)) (fun t u => asgP r xs0 t.ms (rows.length + 1) u) (max up rows.length) mb pb sb bk19 rows w266)) (id ms)) (ZT.turned ((AC.bent (Nat.le_succ _)).turned (Nat.le_refl _)) (.inr rfl)) (FT.turned ((AF.bent (Nat.le_succ _)).turned (Nat.le_refl _)) (.inr rfl)) (EX.turned (fun _ => ((AC.bent (Nat.le_succ _)).turned (Nat.le_refl _)) _) (.inr rfl)) (EX.turned (EndT.turned ((AF.bent (Nat.le_succ _)).turned (Nat.le_refl _))) (.inr rfl)) ?_ (fun x d => [(3, .pointer (some ⟨bk4, 0, none⟩)), (4, .pointer (some ⟨bk9, 0, none⟩)), (5, .pointer (some ⟨bk14, 0, none⟩)), (6, .pointer (some ⟨bk19, 0, none⟩)), (7, .pointer (some ⟨d, 0, none⟩))]) (fun x d W => (Blk W d 275 [.slice x.ao x.nums.length x.cap, .int .i64 x.pl] ∧ w266.heap.size + 1 < d) ∧ YT (FX (FX (FA mb pb sb) bk19) (w266.heap.size + 1)) pb c r am mb cm n (90 - 3 * xs0.length) w266.heap.size (AC (FX (FX (FA mb pb sb) bk19) (w266.heap.size + 1)) (fun t u => asgP r xs0 t.ms (rows.length + 1) u) (max up rows.length) mb pb sb bk19 rows w266) x W) (fun d x W W' h hl u => ⟨⟨h.1.1.keep u (h.1.1.notLoop hl), h.1.2⟩, YT.turned ((AC.bent (Nat.le_succ _)).turned (Nat.le_refl _)) _ _ _ h.2 hl u⟩) ?_ ?_ ?_ ?_)
 ·
  intro l_ D_ R_ Rf_ W hD_ hl_ hsz hE1 hH_ hR_
  subst hD_ hl_
  refine (teams1_c r (nth xs 0) pb c am mb cm n (90 - 3 * xs0.length) (nth xs 0).h.toNat (FX (FX (FA mb pb sb) bk19) (w266.heap.size + 1)) _ w266.heap.size (AC (FX (FX (FA mb pb sb) bk19) (w266.heap.size + 1)) (fun t u => asgP r xs0 t.ms (rows.length + 1) u) (max up rows.length) mb pb sb bk19 rows w266) (AF (FX (FX (FA mb pb sb) bk19) (w266.heap.size + 1)) (fun t u => asgP r xs0 t.ms (rows.length + 1) u) (max up rows.length) mb pb sb bk19 rows w266) R_ Rf_ id bT7 bT5 bT6 bT4 0 [] none 0 0 0 ms W ⟨hp.hr, hp.hxs _ (nth_mem hx0), AC.mb hp.hsm h6m hFm, AF.mb hp.hsm h6m hFm, AC.bent (by omega), AF.bent (by omega), hH_, hT7.kx hE1, hT5.kx hE1, hT6.kx hE1, hT4.kx hE1, ?_, Acc.nil _ _ _ _ _ (by omega) (by omega), fun h => by omega, fun i h => ⟨(hFi i h).1, by have := (hFi i h).2; omega⟩, (fun h => h.elim (fun h => h.elim (fun h => by have := (hFAl _ h).2; omega) (fun e => by omega)) (fun e => by omega)), (fun h => h.elim (fun h => h.elim (fun h => by have := (hFAl _ h).2; omega) (fun e => by omega)) (fun e => by omega)), (fun h => h.elim (fun h => h.elim (fun h => by have := (hFAl _ h).2; omega) (fun e => by omega)) (fun e => by omega)), ?_, .inr rfl, hFm, rfl, by omega, ⟨hpb.1, by omega⟩, ?_, ?_, by omega, hn6, ⟨by decide, by decide⟩, ⟨⟨_, ap, gp, cp, rfl, B271.kx hE1, hplR.ext hE1⟩, B270.kx hE1, hE1.to⟩, hR_, fun _ => rfl, fun _ _ _ _ => rfl⟩).mono fun _ w9 h9 => ?_
  · exact (hrowR.mono fun m hm hb hg => hg.elim (fun hg => hg.elim id (fun e => absurd e ((hrowR.row.mem m hm).ht.neBlk B270 (by decide) hb))) (fun e => by have := (hrowR.row.mem m hm).ht.lt; omega)).ext hE1
  · exact fun h => h.elim (fun h => h.elim (fun h => h.elim (fun h => hp.hcm (h.1 ▸ h.2) h.1) hp.hcs) (fun e => by omega)) (fun e => by omega)
  · show ((0 : Nat) : Int) + _ = _; omega
  · exact fun m hm => by have := hp.hB m hm; omega
  have h8 := (hE1.to (S := TP (FX (FX (FA mb pb sb) bk19) (w266.heap.size + 1)) pb w266)).next h9.2 (fun i hi h => TP.backE hE1 hi h)
  exact h9.1.elim (fun q => .inl ⟨⟨q.1, q.2.2, h8⟩, q.2.1⟩) (fun q => .inr ⟨⟨q.1, q.2.2, h8⟩, q.2.1⟩)
 ·
  intro lq x W K278 hI hK278
  change WC _ _ _ _ _ _ [(30, .agg #[.slice x.ao x.nums.length x.cap, .int .i64 x.pl]), (3, .pointer (some ⟨bk4, 0, none⟩)), (4, .pointer (some ⟨bk9, 0, none⟩)), (5, .pointer (some ⟨bk14, 0, none⟩)), (6, .pointer (some ⟨bk19, 0, none⟩)), (29, .func (.func 186) #[] #[.pointer (some ⟨bT7, 0, none⟩), .pointer (some ⟨bT5, 0, none⟩), .pointer (some ⟨bT6, 0, none⟩), .pointer (some ⟨bT4, 0, none⟩)])] _
  refine (q_of ?_)
  have E000 := Sc.mk (Upd.refl (fun _ => False) W)
  refine go ?_
  refine x_n fun bk279 w280 ebk279 sbk279 B281 u282 => ?_
  try have Y283 := Sc.mk (E000.u.nx u282)
  refine x_s fun w284 sw284 B286 u285 => ?_
  try have Y287 := Sc.mk (Y283.u.next u285 (fun i hi h => by omega))
  refine go ?_
  exact hK278 bk279 _ _ ⟨rfl, rfl, rfl, rfl, rfl, trivial⟩ Y287.u ⟨⟨B286, by have := hI.hD; omega⟩, ⟨AC.mb hp.hsm h6m hFm _ _ _ hI.hc (Ext.to Y287.u), hI.row.ext Y287.u, hI.num.keep Y287.u (fun _ h => h), hI.nf, hI.len, hI.n3, by have := hI.hD; have := (Y287.u).size; omega, hI.upd.nx Y287.u⟩⟩
 ·
  intro lq x d w288 hY
  obtain ⟨⟨hbd, hdg⟩, hY⟩ := hY
  obtain ⟨u9, ap9, gp9, cp9, htr, hsb9, hpl9⟩ := hY.hc.ex
  have huR := hY.hc.hu
  have hdl := hbd.lt
  have hgl9 := hpl9.acc.lt
  have zhuR := huR.size
  try have Y289 := Sc.mk (Y269.u.next huR (fun i hi (h : TP (FX (FX (FA mb pb sb) bk19) (w266.heap.size + 1)) pb w266 i) => show TP (FA mb pb sb) pb w0 i by first | omega | assumption | exact TP.back (Sc.u (by assumption)) hi h | exact TP.back (Sc.u (by assumption)) hi (TP.unfx h (by omega)) | exact Or.inl (by rw [h]; assumption) | exact h.elim (fun h => TP.back uPB.u hi h.fx) (fun h => by omega) | exact Or.inr ⟨h.2, h.1 ▸ hpl9.acc.blkT (h.1 ▸ h.2)⟩))
  have lt_gp9 := hpl9.acc.lt
  have hgsb : pb ≤ gp9 → gp9 ≠ sb := fun h e => hpl9.nf h (.inr e)
  have hxg : 0 < xs.length → ¬ (bx = gp9 ∧ pb ≤ bx) := fun h e => by
    obtain ⟨t, cs, ht, hB⟩ := hbxR e.2
    obtain ⟨cs9, h75⟩ := hpl9.acc.blkT (e.1 ▸ e.2)
    exact absurd e.1 ((hB.keep hY.hc.hu (hnx hx0)).neT h75 ht)
  have hFBs : (FX (FA mb pb sb) bk19) sb := .inl (.inr rfl)
  have hFB6 : (FX (FA mb pb sb) bk19) bk19 := .inr rfl
  have B291 := (B273.keep huR (show ¬ (TP (FX (FX (FA mb pb sb) bk19) (w266.heap.size + 1)) pb w266 bk4) by first | omega | assumption))
  have hgp290 : pb ≤ gp9 → gp9 ≠ bk4 := hpl9.acc.neBlk B291 (by decide)
  have B293 := (B275.keep huR (show ¬ (TP (FX (FX (FA mb pb sb) bk19) (w266.heap.size + 1)) pb w266 bk9) by first | omega | assumption))
  have hgp292 : pb ≤ gp9 → gp9 ≠ bk9 := hpl9.acc.neBlk B293 (by decide)
  have B295 := (B277.keep huR (show ¬ (TP (FX (FX (FA mb pb sb) bk19) (w266.heap.size + 1)) pb w266 bk14) by first | omega | assumption))
  have hgp294 : pb ≤ gp9 → gp9 ≠ bk14 := hpl9.acc.neBlk B295 (by decide)
  have hgp296 : pb ≤ gp9 → gp9 ≠ bk19 := hpl9.acc.neBlk hY.hc.b6 (by decide)
  have hgp297 : pb ≤ gp9 → gp9 ≠ d := hpl9.acc.neBlk hbd (by decide)
  change WC _ _ _ _ _ _ [(3, .pointer (some ⟨bk4, 0, none⟩)), (4, .pointer (some ⟨bk9, 0, none⟩)), (5, .pointer (some ⟨bk14, 0, none⟩)), (6, .pointer (some ⟨bk19, 0, none⟩)), (7, .pointer (some ⟨d, 0, none⟩))] _
  refine (q_of ?_)
  have hcellsR := (TP.cellsB (F := (FX (FA mb pb sb) bk19)) (pb := pb) (B := w266.heap.size) (w := w288) hFB)
  refine go ?_
  refine c_drawnM follows (fun i => (i = gp9 ∧ pb ≤ i) ∨ i = sb) (.look 0 (.look 1 (.look 2 (.look 3 (.look 5 (.look 6 (.act 4 (.act 7 (.act 8 (.look 9 (.look 10 (.act 11 .done .stop))) .stop) .stop) (.act 7 (.act 4 (.act 8 (.look 9 (.look 10 (.act 11 .done .stop))) .stop) .stop) .stop)))))))) (by kernel_rfl) fun w299 u300 => ?_
  have zu300 := u300.size
  try have Y301 := Sc.mk (Y289.u.nx u300)
  refine go ?_
  refine s_or ?_ ?_
  ·
   refine go ?_
   refine x_l fun bk302 w303 ebk302 sbk302 B304 u305 => ?_
   try have Y306 := Sc.mk (Y301.u.nx u305)
   refine go ?_
   have D307 := ((hpl9.acc.keep u300 (fun _ h => h)).keep u305 (fun _ h => h))
   refine t_append (z := .slice none 0 0) (bytes := 24) (k := 1) (base := pb) (HT.hr x) underlying84 (by kernel_rfl) rfl (by decide) (fun _ => rfl) (by intro x; simp [encHRK, Value.oneCell']) rfl rfl rfl rfl D307 B304 (by omega) (by omega) (by decide) (fun ao308 gb309 cp310 w311 A312 u313 gegb309 lngb309 => ?_)
   have zu313 := u313.size
   try have Y314 := Sc.mk (Y306.u.next u313 (fun i hi (h : (i = gp9 ∧ pb ≤ i)) => show TP (FA mb pb sb) pb w0 i by first | omega | assumption | exact TP.back (Sc.u (by assumption)) hi h | exact TP.back (Sc.u (by assumption)) hi (TP.unfx h (by omega)) | exact Or.inl (by rw [h]; assumption) | exact h.elim (fun h => TP.back uPB.u hi h.fx) (fun h => by omega) | exact Or.inr ⟨h.2, h.1 ▸ hpl9.acc.blkT (h.1 ▸ h.2)⟩))
   have lt_gb309 := A312.lt
   refine go ?_
   refine x_s fun w316 sw316 B318 u317 => ?_
   try have Y319 := Sc.mk (Y314.u.next u317 (fun i hi (h : i = sb) => show TP (FA mb pb sb) pb w0 i by first | omega | assumption | exact TP.back (Sc.u (by assumption)) hi h | exact TP.back (Sc.u (by assumption)) hi (TP.unfx h (by omega)) | exact Or.inl (by rw [h]; assumption) | exact h.elim (fun h => TP.back uPB.u hi h.fx) (fun h => by omega) | exact Or.inr ⟨h.2, h.1 ▸ hpl9.acc.blkT (h.1 ▸ h.2)⟩))
   refine go ?_
   have B323 := ((((B291.kx u300).kx u305).keep u313 (by omega)).keep u317 (by omega))
   have nTb322 : ¬ TQ (FA mb pb sb) pb w316 bk4 := TQ.not (Upd.refl _ _) (fun h => by have := (hFAl _ h).2; omega) (by omega) B323 (by decide)
   have B325 := ((((B293.kx u300).kx u305).keep u313 (by omega)).keep u317 (by omega))
   have nTb324 : ¬ TQ (FA mb pb sb) pb w316 bk9 := TQ.not (Upd.refl _ _) (fun h => by have := (hFAl _ h).2; omega) (by omega) B325 (by decide)
   have B327 := ((((B295.kx u300).kx u305).keep u313 (by omega)).keep u317 (by omega))
   have nTb326 : ¬ TQ (FA mb pb sb) pb w316 bk14 := TQ.not (Upd.refl _ _) (fun h => by have := (hFAl _ h).2; omega) (by omega) B327 (by decide)
   have B329 := ((((hY.hc.b6.kx u300).kx u305).keep u313 (by omega)).keep u317 (by omega))
   have nTb328 : ¬ TQ (FA mb pb sb) pb w316 bk19 := TQ.not (Upd.refl _ _) (fun h => by have := (hFAl _ h).2; omega) (by omega) B329 (by decide)
   refine c_drawnM follows (fun i => TQ (FA mb pb sb) pb w316 i) (OTl [0, 2, 4, 6, 9]) (by kernel_rfl) fun w330 u331 => ?_
   have zu331 := u331.size
   try have Y332 := Sc.mk (Y319.u.nx u331)
   refine go ?_
   refine y_sliceFrom (1) underlying74 sizeOf79 rfl rfl rfl rfl rfl (by omega) hp.hcx (y_same 45 (v := .slice (subAddr ax cx 1 7) xs0.length (cx - 1)) rfl (by rw [hxl]; rfl) ?_)
   refine go ?_
   have uQ : Sc (TP (fun i => i = sb) pb w288) w288 w330 := ⟨((((((Upd.refl (TP (fun i => i = sb) pb w288) _).nx u300).nx u305).next u313 (fun i hi h => .inr ⟨h.2, h.1 ▸ hpl9.acc.blkT (h.1 ▸ h.2)⟩)).next u317 (fun i hi h => .inl h)).nx u331)⟩
   have uPB : Sc (TP (FX (FA mb pb sb) bk19) pb w288) w288 w316 := ⟨((((((Upd.refl (TP (fun i => i = sb) pb w288) _).nx u300).nx u305).next u313 (fun i hi h => .inr ⟨h.2, h.1 ▸ hpl9.acc.blkT (h.1 ▸ h.2)⟩)).next u317 (fun i hi h => .inl h))).mono (fun i h => h.elim (fun h => .inl (.inl (.inr h))) .inr)⟩
   have B333 := (B318.kx u331)
   have D334 := ((A312.keep u317 (fun hb => show ¬ (gb309 = sb) by first | omega | assumption)).keep u331 (fun _ h => h))
   have D335 := (((((((D263.keep u267 (fun _ h => h)).keep huR (fun h9 => by show ¬ (TP (FX (FX (FA mb pb sb) bk19) (w266.heap.size + 1)) pb w266 bx); have h8 := (hp.hbx h9).1; have h7 := hp.legs.lt h9; first | omega | exact fun e => h8 (.inr e) | exact hnx h9 | exact hxg h9)).keep u300 (fun _ h => h)).keep u305 (fun _ h => h)).keep u313 (fun h9 => by show ¬ ((bx = gp9 ∧ pb ≤ bx)); have h8 := (hp.hbx h9).1; have h7 := hp.legs.lt h9; first | omega | exact fun e => h8 (.inr e) | exact hnx h9 | exact hxg h9)).keep u317 (fun h9 => by show ¬ (bx = sb); have h8 := (hp.hbx h9).1; have h7 := hp.legs.lt h9; first | omega | exact fun e => h8 (.inr e) | exact hnx h9 | exact hxg h9)).keep u331 (fun _ h => h))
   have hrowQ : RowC (FA mb pb sb) pb c r am mb cm n x.hm w330 := (hY.row.mono fun m hm hb hf => .inl (.inl hf)).tpS hp.hsm hp.hcs (.inr rfl) hsb uQ.u
   have hplQ : PlanM (FA mb pb sb) pb w330 ao308 gb309 cp310 (rows ++ [HT.hr x]) := hpl9.push (.inr rfl) uQ.u D334 (fun hb hf => by
     rcases (show gb309 = gp9 ∨ w0.heap.size ≤ gb309 by omega) with e | e
     · exact hpl9.nf (e ▸ hb) (e ▸ hf)
     · have := (hFAl _ hf).2; omega) hY.num (fun hb hf => hY.nf hb (.inl (.inl hf)))
   have hx1 : Sl encLeg 7 w330 (subAddr ax cx 1 7) bx (ox + 1 * 7) xs0 := by
     have h := (D335).sub cx 1 xs0.length hp.hcx
     rwa [hd1, List.take_length] at h
   have hbx1 : 0 < xs0.length → ¬ (FA mb pb sb) bx ∧ (pb ≤ bx → ∃ t cs, t ≠ 38 ∧ Blk w330 bx t cs) := fun _ => ⟨(hp.hbx hx0).1, fun hb => by
     obtain ⟨t, cs, ht, hB⟩ := hbxR hb
     have h8 := hB.keep hY.hc.hu (hnx hx0)
     exact ⟨t, cs, ht, h8.keep uQ.u (TP.not (fun e => (hp.hbx hx0).1 (.inr e)) h8 ht)⟩⟩
   refine t_call own57 rfl rfl rfl rfl ((ih x0 xs0 hxe r pb c am mb cm n sb _ bx _ _ x.hm _ ao308 gb309 cp310 u9 _ ⟨hp.hr, fun y hy => hp.hxs y (by rw [hxe]; exact List.mem_cons_of_mem _ hy), fun m hm => by have := hY.len m hm; have := hp.hB; omega, hx1, by have := hp.hcx; omega, hbx1, B333, hplQ, hrowQ, hp.hcm, hp.hcs, hsb, hp.hsm, hn6, by rw [List.length_append, List.length_singleton]; omega, ⟨hpb.1, by omega⟩⟩).mono fun _ _ h => AsgR.t h u331) (fun v336 w337 r339 => ?_)
   obtain ⟨rfl, ⟨rows2, ap2, gp2, cp2, hsb2, hpl2, hno2, hso2⟩, hrow2, u338⟩ := r339
   have zu338 := u338.size
   try have Y340 := Sc.mk (Y332.u.next u338 (fun i hi (h : TQ (FA mb pb sb) pb w316 i) => show TP (FA mb pb sb) pb w0 i by first | omega | assumption | exact TP.back (Sc.u (by assumption)) hi h | exact TP.back (Sc.u (by assumption)) hi (TP.unfx h (by omega)) | exact Or.inl (by rw [h]; assumption) | exact h.elim (fun h => TP.back uPB.u hi h.fx) (fun h => by omega) | exact Or.inr ⟨h.2, h.1 ▸ hpl9.acc.blkT (h.1 ▸ h.2)⟩))
   have hA9 : (asgP r xs0 (x.hm.map HM.mb) (rows ++ [HT.hr x]).length u9) = asgP r xs0 (x.hm.map HM.mb) (rows.length + 1) u9 := by rw [List.length_append]; rfl
   have B341 := ((B329.kx u331).keep u338 (show ¬ (TQ (FA mb pb sb) pb w316 bk19) by first | omega | assumption))
   have h6A := B341
   refine s_next ((Upd.refl _ _).next u338 (fun i hi (h : TQ (FA mb pb sb) pb w316 i) => show w330.heap.size ≤ i ∨ (TQ (FA mb pb sb) pb w316 i) by first | omega | exact .inr h)) ?_
   refine go ?_
   refine q_b (fun g46 => ?_) fun g46 => ?_
   ·
    obtain ⟨q9, hq9⟩ := Option.isSome_iff_exists.1 g46
    refine go ?_
    refine x_s fun w343 sw343 B345 u344 => ?_
    try have Y346 := Sc.mk (Y340.u.next u344 (fun i hi (h : i = bk19) => show TP (FA mb pb sb) pb w0 i by first | omega | assumption | exact TP.back (Sc.u (by assumption)) hi h | exact TP.back (Sc.u (by assumption)) hi (TP.unfx h (by omega)) | exact Or.inl (by rw [h]; assumption) | exact h.elim (fun h => TP.back uPB.u hi h.fx) (fun h => by omega) | exact Or.inr ⟨h.2, h.1 ▸ hpl9.acc.blkT (h.1 ▸ h.2)⟩))
    refine go ?_
    have hUr := ((((((((Upd.refl (fun i => TP (FX (FA mb pb sb) bk19) pb w288 i) w288).nx u300).nx u305).next u313 (fun i hi (h : (i = gp9 ∧ pb ≤ i)) => show TP (FX (FA mb pb sb) bk19) pb w288 i by first | omega | assumption | exact TP.back (Sc.u (by assumption)) hi h | exact TP.back (Sc.u (by assumption)) hi (TP.unfx h (by omega)) | exact Or.inl (by rw [h]; assumption) | exact h.elim (fun h => TP.back uPB.u hi h.fx) (fun h => by omega) | exact Or.inr ⟨h.2, h.1 ▸ hpl9.acc.blkT (h.1 ▸ h.2)⟩)).next u317 (fun i hi (h : i = sb) => show TP (FX (FA mb pb sb) bk19) pb w288 i by first | omega | assumption | exact TP.back (Sc.u (by assumption)) hi h | exact TP.back (Sc.u (by assumption)) hi (TP.unfx h (by omega)) | exact Or.inl (by rw [h]; assumption) | exact h.elim (fun h => TP.back uPB.u hi h.fx) (fun h => by omega) | exact Or.inr ⟨h.2, h.1 ▸ hpl9.acc.blkT (h.1 ▸ h.2)⟩)).nx u331).next u338 (fun i hi (h : TQ (FA mb pb sb) pb w316 i) => show TP (FX (FA mb pb sb) bk19) pb w288 i by first | omega | assumption | exact TP.back (Sc.u (by assumption)) hi h | exact TP.back (Sc.u (by assumption)) hi (TP.unfx h (by omega)) | exact Or.inl (by rw [h]; assumption) | exact h.elim (fun h => TP.back uPB.u hi h.fx) (fun h => by omega) | exact Or.inr ⟨h.2, h.1 ▸ hpl9.acc.blkT (h.1 ▸ h.2)⟩)).next u344 (fun i hi (h : i = bk19) => show TP (FX (FA mb pb sb) bk19) pb w288 i by first | omega | assumption | exact TP.back (Sc.u (by assumption)) hi h | exact TP.back (Sc.u (by assumption)) hi (TP.unfx h (by omega)) | exact Or.inl (by rw [h]; assumption) | exact h.elim (fun h => TP.back uPB.u hi h.fx) (fun h => by omega) | exact Or.inr ⟨h.2, h.1 ▸ hpl9.acc.blkT (h.1 ▸ h.2)⟩))
    have uW : Sc (TP (FX (FX (FA mb pb sb) bk19) (w266.heap.size + 1)) pb w288) _ _ := ⟨hUr.mono (fun i h => h.fx)⟩
    have B347 := (hsb2.keep u344 (by omega))
    have uT : Sc (· = bk19) w337 w343 := ⟨((Upd.refl (· = bk19) _).next u344 (fun i hi h => h))⟩
    exact ⟨fun a ha => ⟨KeepsFrom.of_updB hUr hcellsR, (⟨⟨⟨_, _, q9, _, _, _, _, htr, (by show asgP r xs0 (x.hm.map HM.mb) (rows.length + 1) u9 = _; rw [← hA9]; exact Prod.ext hq9 rfl), B347, hpl2.up6 h6A uT.u, by rw [hso2 q9 hq9, List.map_append, List.append_assoc]; rfl⟩, B345, hY.hc.hu.next uW.u (fun i hi h => TP.back hY.hc.hu hi h)⟩, (hrow2.up6 h6A (by omega) uT.u).f0, (hY.upd.mono fun i e => .inl (.inr e)).next uW.u (fun i hi h => TP.back (hY.upd.mono fun i e => .inl (.inr e)) hi h)⟩ : FT (FX (FX (FA mb pb sb) bk19) (w266.heap.size + 1)) pb c r am mb cm n (AF (FX (FX (FA mb pb sb) bk19) (w266.heap.size + 1)) (fun t u => asgP r xs0 t.ms (rows.length + 1) u) (max up rows.length) mb pb sb bk19 rows w266) id x _)⟩⟩
   have hq9 := Option.not_isSome_iff_eq_none.1 (fun h => by rw [h] at g46; cases g46)
   have hr2 := hno2 hq9
   rw [hr2] at hsb2 hpl2
   have lt_gp2 := hpl2.acc.lt
   refine go ?_
   refine c_drawnM follows (fun i => i = sb) (.look 0 (.look 1 (.look 2 (.look 3 (.look 5 (.look 6 (.look 7 (.act 4 (.act 8 (.look 9 (.look 10 (.look 11 (.look 12 (.look 13 (.act 14 .done .stop)))))) .stop) (.act 8 (.look 9 (.look 10 (.act 4 (.look 11 (.look 12 (.look 13 (.act 14 .done .stop)))) .stop))) .stop))))))))) (by kernel_rfl) fun w348 u349 => ?_
   have zu349 := u349.size
   try have Y350 := Sc.mk (Y340.u.nx u349)
   refine go ?_
   refine s_or ?_ ?_
   ·
    refine go ?_
    refine y_sliceTo (rows.length) underlying84 sizeOf38 rfl rfl rfl rfl (by rw [List.length_append, List.length_singleton]; omega) (by have := hpl2.acc.cap_le; rw [List.length_append, List.length_singleton] at this; omega) (y_same 58 (v := .slice ap2 rows.length cp2) rfl (by rw [hpl2.acc.sub0 (by simp)]) ?_)
    refine go ?_
    refine x_s fun w352 sw352 B354 u353 => ?_
    try have Y355 := Sc.mk (Y350.u.next u353 (fun i hi (h : i = sb) => show TP (FA mb pb sb) pb w0 i by first | omega | assumption | exact TP.back (Sc.u (by assumption)) hi h | exact TP.back (Sc.u (by assumption)) hi (TP.unfx h (by omega)) | exact Or.inl (by rw [h]; assumption) | exact h.elim (fun h => TP.back uPB.u hi h.fx) (fun h => by omega) | exact Or.inr ⟨h.2, h.1 ▸ hpl9.acc.blkT (h.1 ▸ h.2)⟩))
    refine go ?_
    have hUr := (((((((((Upd.refl (fun i => TP (FX (FA mb pb sb) bk19) pb w288 i) w288).nx u300).nx u305).next u313 (fun i hi (h : (i = gp9 ∧ pb ≤ i)) => show TP (FX (FA mb pb sb) bk19) pb w288 i by first | omega | assumption | exact TP.back (Sc.u (by assumption)) hi h | exact TP.back (Sc.u (by assumption)) hi (TP.unfx h (by omega)) | exact Or.inl (by rw [h]; assumption) | exact h.elim (fun h => TP.back uPB.u hi h.fx) (fun h => by omega) | exact Or.inr ⟨h.2, h.1 ▸ hpl9.acc.blkT (h.1 ▸ h.2)⟩)).next u317 (fun i hi (h : i = sb) => show TP (FX (FA mb pb sb) bk19) pb w288 i by first | omega | assumption | exact TP.back (Sc.u (by assumption)) hi h | exact TP.back (Sc.u (by assumption)) hi (TP.unfx h (by omega)) | exact Or.inl (by rw [h]; assumption) | exact h.elim (fun h => TP.back uPB.u hi h.fx) (fun h => by omega) | exact Or.inr ⟨h.2, h.1 ▸ hpl9.acc.blkT (h.1 ▸ h.2)⟩)).nx u331).next u338 (fun i hi (h : TQ (FA mb pb sb) pb w316 i) => show TP (FX (FA mb pb sb) bk19) pb w288 i by first | omega | assumption | exact TP.back (Sc.u (by assumption)) hi h | exact TP.back (Sc.u (by assumption)) hi (TP.unfx h (by omega)) | exact Or.inl (by rw [h]; assumption) | exact h.elim (fun h => TP.back uPB.u hi h.fx) (fun h => by omega) | exact Or.inr ⟨h.2, h.1 ▸ hpl9.acc.blkT (h.1 ▸ h.2)⟩)).nx u349).next u353 (fun i hi (h : i = sb) => show TP (FX (FA mb pb sb) bk19) pb w288 i by first | omega | assumption | exact TP.back (Sc.u (by assumption)) hi h | exact TP.back (Sc.u (by assumption)) hi (TP.unfx h (by omega)) | exact Or.inl (by rw [h]; assumption) | exact h.elim (fun h => TP.back uPB.u hi h.fx) (fun h => by omega) | exact Or.inr ⟨h.2, h.1 ▸ hpl9.acc.blkT (h.1 ▸ h.2)⟩))
    have uW : Sc (TP (FX (FX (FA mb pb sb) bk19) (w266.heap.size + 1)) pb w288) _ _ := ⟨hUr.mono (fun i h => h.fx)⟩
    have B356 := ((B341.kx u349).keep u353 (by omega))
    have uT : Sc (· = sb) w337 w352 := ⟨(((Upd.refl (· = sb) _).nx u349).next u353 (fun i hi h => h))⟩
    exact ⟨fun a ha => ⟨KeepsFrom.of_updB hUr hcellsR, (⟨⟨⟨_, _, _, _, tryF_step htr (by show asgP r xs0 (x.hm.map HM.mb) (rows.length + 1) u9 = _; rw [← hA9]; exact Prod.ext hq9 rfl), B354, hpl2.pop.upd uT.u (fun hb e => hpl2.nf hb (.inr e)) (fun q hq hb e => hpl2.pop.mf q hq hb (.inr e))⟩, B356, hY.hc.hu.next uW.u (fun i hi h => TP.back hY.hc.hu hi h)⟩, (hrow2.tpS hp.hsm hp.hcs (.inr rfl) hsb (uT.u.mono fun i e => .inl e)).toF hY.row.row, (hY.upd.mono fun i e => .inl (.inr e)).next uW.u (fun i hi h => TP.back (hY.upd.mono fun i e => .inl (.inr e)) hi h)⟩ : ZT (FX (FX (FA mb pb sb) bk19) (w266.heap.size + 1)) pb c r am mb cm n (AC (FX (FX (FA mb pb sb) bk19) (w266.heap.size + 1)) (fun t u => asgP r xs0 t.ms (rows.length + 1) u) (max up rows.length) mb pb sb bk19 rows w266) x _)⟩⟩
   refine go ?_
   refine y_sliceTo (rows.length) underlying84 sizeOf38 rfl rfl rfl rfl (by rw [List.length_append, List.length_singleton]; omega) (by have := hpl2.acc.cap_le; rw [List.length_append, List.length_singleton] at this; omega) (y_same 58 (v := .slice ap2 rows.length cp2) rfl (by rw [hpl2.acc.sub0 (by simp)]) ?_)
   refine go ?_
   refine x_s fun w358 sw358 B360 u359 => ?_
   try have Y361 := Sc.mk (Y350.u.next u359 (fun i hi (h : i = sb) => show TP (FA mb pb sb) pb w0 i by first | omega | assumption | exact TP.back (Sc.u (by assumption)) hi h | exact TP.back (Sc.u (by assumption)) hi (TP.unfx h (by omega)) | exact Or.inl (by rw [h]; assumption) | exact h.elim (fun h => TP.back uPB.u hi h.fx) (fun h => by omega) | exact Or.inr ⟨h.2, h.1 ▸ hpl9.acc.blkT (h.1 ▸ h.2)⟩))
   refine go ?_
   have hUr := (((((((((Upd.refl (fun i => TP (FX (FA mb pb sb) bk19) pb w288 i) w288).nx u300).nx u305).next u313 (fun i hi (h : (i = gp9 ∧ pb ≤ i)) => show TP (FX (FA mb pb sb) bk19) pb w288 i by first | omega | assumption | exact TP.back (Sc.u (by assumption)) hi h | exact TP.back (Sc.u (by assumption)) hi (TP.unfx h (by omega)) | exact Or.inl (by rw [h]; assumption) | exact h.elim (fun h => TP.back uPB.u hi h.fx) (fun h => by omega) | exact Or.inr ⟨h.2, h.1 ▸ hpl9.acc.blkT (h.1 ▸ h.2)⟩)).next u317 (fun i hi (h : i = sb) => show TP (FX (FA mb pb sb) bk19) pb w288 i by first | omega | assumption | exact TP.back (Sc.u (by assumption)) hi h | exact TP.back (Sc.u (by assumption)) hi (TP.unfx h (by omega)) | exact Or.inl (by rw [h]; assumption) | exact h.elim (fun h => TP.back uPB.u hi h.fx) (fun h => by omega) | exact Or.inr ⟨h.2, h.1 ▸ hpl9.acc.blkT (h.1 ▸ h.2)⟩)).nx u331).next u338 (fun i hi (h : TQ (FA mb pb sb) pb w316 i) => show TP (FX (FA mb pb sb) bk19) pb w288 i by first | omega | assumption | exact TP.back (Sc.u (by assumption)) hi h | exact TP.back (Sc.u (by assumption)) hi (TP.unfx h (by omega)) | exact Or.inl (by rw [h]; assumption) | exact h.elim (fun h => TP.back uPB.u hi h.fx) (fun h => by omega) | exact Or.inr ⟨h.2, h.1 ▸ hpl9.acc.blkT (h.1 ▸ h.2)⟩)).nx u349).next u359 (fun i hi (h : i = sb) => show TP (FX (FA mb pb sb) bk19) pb w288 i by first | omega | assumption | exact TP.back (Sc.u (by assumption)) hi h | exact TP.back (Sc.u (by assumption)) hi (TP.unfx h (by omega)) | exact Or.inl (by rw [h]; assumption) | exact h.elim (fun h => TP.back uPB.u hi h.fx) (fun h => by omega) | exact Or.inr ⟨h.2, h.1 ▸ hpl9.acc.blkT (h.1 ▸ h.2)⟩))
   have uW : Sc (TP (FX (FX (FA mb pb sb) bk19) (w266.heap.size + 1)) pb w288) _ _ := ⟨hUr.mono (fun i h => h.fx)⟩
   have B362 := ((B341.kx u349).keep u359 (by omega))
   have uT : Sc (· = sb) w337 w358 := ⟨(((Upd.refl (· = sb) _).nx u349).next u359 (fun i hi h => h))⟩
   exact ⟨fun a ha => ⟨KeepsFrom.of_updB hUr hcellsR, (⟨⟨⟨_, _, _, _, tryF_step htr (by show asgP r xs0 (x.hm.map HM.mb) (rows.length + 1) u9 = _; rw [← hA9]; exact Prod.ext hq9 rfl), B360, hpl2.pop.upd uT.u (fun hb e => hpl2.nf hb (.inr e)) (fun q hq hb e => hpl2.pop.mf q hq hb (.inr e))⟩, B362, hY.hc.hu.next uW.u (fun i hi h => TP.back hY.hc.hu hi h)⟩, (hrow2.tpS hp.hsm hp.hcs (.inr rfl) hsb (uT.u.mono fun i e => .inl e)).toF hY.row.row, (hY.upd.mono fun i e => .inl (.inr e)).next uW.u (fun i hi h => TP.back (hY.upd.mono fun i e => .inl (.inr e)) hi h)⟩ : ZT (FX (FX (FA mb pb sb) bk19) (w266.heap.size + 1)) pb c r am mb cm n (AC (FX (FX (FA mb pb sb) bk19) (w266.heap.size + 1)) (fun t u => asgP r xs0 t.ms (rows.length + 1) u) (max up rows.length) mb pb sb bk19 rows w266) x _)⟩⟩
  refine go ?_
  refine x_l fun bk363 w364 ebk363 sbk363 B365 u366 => ?_
  try have Y367 := Sc.mk (Y301.u.nx u366)
  refine go ?_
  have D368 := ((hpl9.acc.keep u300 (fun _ h => h)).keep u366 (fun _ h => h))
  refine t_append (z := .slice none 0 0) (bytes := 24) (k := 1) (base := pb) (HT.hr x) underlying84 (by kernel_rfl) rfl (by decide) (fun _ => rfl) (by intro x; simp [encHRK, Value.oneCell']) rfl rfl rfl rfl D368 B365 (by omega) (by omega) (by decide) (fun ao369 gb370 cp371 w372 A373 u374 gegb370 lngb370 => ?_)
  have zu374 := u374.size
  try have Y375 := Sc.mk (Y367.u.next u374 (fun i hi (h : (i = gp9 ∧ pb ≤ i)) => show TP (FA mb pb sb) pb w0 i by first | omega | assumption | exact TP.back (Sc.u (by assumption)) hi h | exact TP.back (Sc.u (by assumption)) hi (TP.unfx h (by omega)) | exact Or.inl (by rw [h]; assumption) | exact h.elim (fun h => TP.back uPB.u hi h.fx) (fun h => by omega) | exact Or.inr ⟨h.2, h.1 ▸ hpl9.acc.blkT (h.1 ▸ h.2)⟩))
  have lt_gb370 := A373.lt
  refine go ?_
  refine x_s fun w377 sw377 B379 u378 => ?_
  try have Y380 := Sc.mk (Y375.u.next u378 (fun i hi (h : i = sb) => show TP (FA mb pb sb) pb w0 i by first | omega | assumption | exact TP.back (Sc.u (by assumption)) hi h | exact TP.back (Sc.u (by assumption)) hi (TP.unfx h (by omega)) | exact Or.inl (by rw [h]; assumption) | exact h.elim (fun h => TP.back uPB.u hi h.fx) (fun h => by omega) | exact Or.inr ⟨h.2, h.1 ▸ hpl9.acc.blkT (h.1 ▸ h.2)⟩))
  refine go ?_
  have B384 := ((((B291.kx u300).kx u366).keep u374 (by omega)).keep u378 (by omega))
  have nTb383 : ¬ TQ (FA mb pb sb) pb w377 bk4 := TQ.not (Upd.refl _ _) (fun h => by have := (hFAl _ h).2; omega) (by omega) B384 (by decide)
  have B386 := ((((B293.kx u300).kx u366).keep u374 (by omega)).keep u378 (by omega))
  have nTb385 : ¬ TQ (FA mb pb sb) pb w377 bk9 := TQ.not (Upd.refl _ _) (fun h => by have := (hFAl _ h).2; omega) (by omega) B386 (by decide)
  have B388 := ((((B295.kx u300).kx u366).keep u374 (by omega)).keep u378 (by omega))
  have nTb387 : ¬ TQ (FA mb pb sb) pb w377 bk14 := TQ.not (Upd.refl _ _) (fun h => by have := (hFAl _ h).2; omega) (by omega) B388 (by decide)
  have B390 := ((((hY.hc.b6.kx u300).kx u366).keep u374 (by omega)).keep u378 (by omega))
  have nTb389 : ¬ TQ (FA mb pb sb) pb w377 bk19 := TQ.not (Upd.refl _ _) (fun h => by have := (hFAl _ h).2; omega) (by omega) B390 (by decide)
  refine c_drawnM follows (fun i => TQ (FA mb pb sb) pb w377 i) (OTl [0, 2, 4, 6, 9]) (by kernel_rfl) fun w391 u392 => ?_
  have zu392 := u392.size
  try have Y393 := Sc.mk (Y380.u.nx u392)
  refine go ?_
  refine y_sliceFrom (1) underlying74 sizeOf79 rfl rfl rfl rfl rfl (by omega) hp.hcx (y_same 45 (v := .slice (subAddr ax cx 1 7) xs0.length (cx - 1)) rfl (by rw [hxl]; rfl) ?_)
  refine go ?_
  have uQ : Sc (TP (fun i => i = sb) pb w288) w288 w391 := ⟨((((((Upd.refl (TP (fun i => i = sb) pb w288) _).nx u300).nx u366).next u374 (fun i hi h => .inr ⟨h.2, h.1 ▸ hpl9.acc.blkT (h.1 ▸ h.2)⟩)).next u378 (fun i hi h => .inl h)).nx u392)⟩
  have uPB : Sc (TP (FX (FA mb pb sb) bk19) pb w288) w288 w377 := ⟨((((((Upd.refl (TP (fun i => i = sb) pb w288) _).nx u300).nx u366).next u374 (fun i hi h => .inr ⟨h.2, h.1 ▸ hpl9.acc.blkT (h.1 ▸ h.2)⟩)).next u378 (fun i hi h => .inl h))).mono (fun i h => h.elim (fun h => .inl (.inl (.inr h))) .inr)⟩
  have B394 := (B379.kx u392)
  have D395 := ((A373.keep u378 (fun hb => show ¬ (gb370 = sb) by first | omega | assumption)).keep u392 (fun _ h => h))
  have D396 := (((((((D263.keep u267 (fun _ h => h)).keep huR (fun h9 => by show ¬ (TP (FX (FX (FA mb pb sb) bk19) (w266.heap.size + 1)) pb w266 bx); have h8 := (hp.hbx h9).1; have h7 := hp.legs.lt h9; first | omega | exact fun e => h8 (.inr e) | exact hnx h9 | exact hxg h9)).keep u300 (fun _ h => h)).keep u366 (fun _ h => h)).keep u374 (fun h9 => by show ¬ ((bx = gp9 ∧ pb ≤ bx)); have h8 := (hp.hbx h9).1; have h7 := hp.legs.lt h9; first | omega | exact fun e => h8 (.inr e) | exact hnx h9 | exact hxg h9)).keep u378 (fun h9 => by show ¬ (bx = sb); have h8 := (hp.hbx h9).1; have h7 := hp.legs.lt h9; first | omega | exact fun e => h8 (.inr e) | exact hnx h9 | exact hxg h9)).keep u392 (fun _ h => h))
  have hrowQ : RowC (FA mb pb sb) pb c r am mb cm n x.hm w391 := (hY.row.mono fun m hm hb hf => .inl (.inl hf)).tpS hp.hsm hp.hcs (.inr rfl) hsb uQ.u
  have hplQ : PlanM (FA mb pb sb) pb w391 ao369 gb370 cp371 (rows ++ [HT.hr x]) := hpl9.push (.inr rfl) uQ.u D395 (fun hb hf => by
    rcases (show gb370 = gp9 ∨ w0.heap.size ≤ gb370 by omega) with e | e
    · exact hpl9.nf (e ▸ hb) (e ▸ hf)
    · have := (hFAl _ hf).2; omega) hY.num (fun hb hf => hY.nf hb (.inl (.inl hf)))
  have hx1 : Sl encLeg 7 w391 (subAddr ax cx 1 7) bx (ox + 1 * 7) xs0 := by
    have h := (D396).sub cx 1 xs0.length hp.hcx
    rwa [hd1, List.take_length] at h
  have hbx1 : 0 < xs0.length → ¬ (FA mb pb sb) bx ∧ (pb ≤ bx → ∃ t cs, t ≠ 38 ∧ Blk w391 bx t cs) := fun _ => ⟨(hp.hbx hx0).1, fun hb => by
    obtain ⟨t, cs, ht, hB⟩ := hbxR hb
    have h8 := hB.keep hY.hc.hu (hnx hx0)
    exact ⟨t, cs, ht, h8.keep uQ.u (TP.not (fun e => (hp.hbx hx0).1 (.inr e)) h8 ht)⟩⟩
  refine t_call own57 rfl rfl rfl rfl ((ih x0 xs0 hxe r pb c am mb cm n sb _ bx _ _ x.hm _ ao369 gb370 cp371 u9 _ ⟨hp.hr, fun y hy => hp.hxs y (by rw [hxe]; exact List.mem_cons_of_mem _ hy), fun m hm => by have := hY.len m hm; have := hp.hB; omega, hx1, by have := hp.hcx; omega, hbx1, B394, hplQ, hrowQ, hp.hcm, hp.hcs, hsb, hp.hsm, hn6, by rw [List.length_append, List.length_singleton]; omega, ⟨hpb.1, by omega⟩⟩).mono fun _ _ h => AsgR.t h u392) (fun v397 w398 r400 => ?_)
  obtain ⟨rfl, ⟨rows2, ap2, gp2, cp2, hsb2, hpl2, hno2, hso2⟩, hrow2, u399⟩ := r400
  have zu399 := u399.size
  try have Y401 := Sc.mk (Y393.u.next u399 (fun i hi (h : TQ (FA mb pb sb) pb w377 i) => show TP (FA mb pb sb) pb w0 i by first | omega | assumption | exact TP.back (Sc.u (by assumption)) hi h | exact TP.back (Sc.u (by assumption)) hi (TP.unfx h (by omega)) | exact Or.inl (by rw [h]; assumption) | exact h.elim (fun h => TP.back uPB.u hi h.fx) (fun h => by omega) | exact Or.inr ⟨h.2, h.1 ▸ hpl9.acc.blkT (h.1 ▸ h.2)⟩))
  have hA9 : (asgP r xs0 (x.hm.map HM.mb) (rows ++ [HT.hr x]).length u9) = asgP r xs0 (x.hm.map HM.mb) (rows.length + 1) u9 := by rw [List.length_append]; rfl
  have B402 := ((B390.kx u392).keep u399 (show ¬ (TQ (FA mb pb sb) pb w377 bk19) by first | omega | assumption))
  have h6A := B402
  refine s_next ((Upd.refl _ _).next u399 (fun i hi (h : TQ (FA mb pb sb) pb w377 i) => show w391.heap.size ≤ i ∨ (TQ (FA mb pb sb) pb w377 i) by first | omega | exact .inr h)) ?_
  refine go ?_
  refine q_b (fun g46 => ?_) fun g46 => ?_
  ·
   obtain ⟨q9, hq9⟩ := Option.isSome_iff_exists.1 g46
   refine go ?_
   refine x_s fun w404 sw404 B406 u405 => ?_
   try have Y407 := Sc.mk (Y401.u.next u405 (fun i hi (h : i = bk19) => show TP (FA mb pb sb) pb w0 i by first | omega | assumption | exact TP.back (Sc.u (by assumption)) hi h | exact TP.back (Sc.u (by assumption)) hi (TP.unfx h (by omega)) | exact Or.inl (by rw [h]; assumption) | exact h.elim (fun h => TP.back uPB.u hi h.fx) (fun h => by omega) | exact Or.inr ⟨h.2, h.1 ▸ hpl9.acc.blkT (h.1 ▸ h.2)⟩))
   refine go ?_
   have hUr := ((((((((Upd.refl (fun i => TP (FX (FA mb pb sb) bk19) pb w288 i) w288).nx u300).nx u366).next u374 (fun i hi (h : (i = gp9 ∧ pb ≤ i)) => show TP (FX (FA mb pb sb) bk19) pb w288 i by first | omega | assumption | exact TP.back (Sc.u (by assumption)) hi h | exact TP.back (Sc.u (by assumption)) hi (TP.unfx h (by omega)) | exact Or.inl (by rw [h]; assumption) | exact h.elim (fun h => TP.back uPB.u hi h.fx) (fun h => by omega) | exact Or.inr ⟨h.2, h.1 ▸ hpl9.acc.blkT (h.1 ▸ h.2)⟩)).next u378 (fun i hi (h : i = sb) => show TP (FX (FA mb pb sb) bk19) pb w288 i by first | omega | assumption | exact TP.back (Sc.u (by assumption)) hi h | exact TP.back (Sc.u (by assumption)) hi (TP.unfx h (by omega)) | exact Or.inl (by rw [h]; assumption) | exact h.elim (fun h => TP.back uPB.u hi h.fx) (fun h => by omega) | exact Or.inr ⟨h.2, h.1 ▸ hpl9.acc.blkT (h.1 ▸ h.2)⟩)).nx u392).next u399 (fun i hi (h : TQ (FA mb pb sb) pb w377 i) => show TP (FX (FA mb pb sb) bk19) pb w288 i by first | omega | assumption | exact TP.back (Sc.u (by assumption)) hi h | exact TP.back (Sc.u (by assumption)) hi (TP.unfx h (by omega)) | exact Or.inl (by rw [h]; assumption) | exact h.elim (fun h => TP.back uPB.u hi h.fx) (fun h => by omega) | exact Or.inr ⟨h.2, h.1 ▸ hpl9.acc.blkT (h.1 ▸ h.2)⟩)).next u405 (fun i hi (h : i = bk19) => show TP (FX (FA mb pb sb) bk19) pb w288 i by first | omega | assumption | exact TP.back (Sc.u (by assumption)) hi h | exact TP.back (Sc.u (by assumption)) hi (TP.unfx h (by omega)) | exact Or.inl (by rw [h]; assumption) | exact h.elim (fun h => TP.back uPB.u hi h.fx) (fun h => by omega) | exact Or.inr ⟨h.2, h.1 ▸ hpl9.acc.blkT (h.1 ▸ h.2)⟩))
   have uW : Sc (TP (FX (FX (FA mb pb sb) bk19) (w266.heap.size + 1)) pb w288) _ _ := ⟨hUr.mono (fun i h => h.fx)⟩
   have B408 := (hsb2.keep u405 (by omega))
   have uT : Sc (· = bk19) w398 w404 := ⟨((Upd.refl (· = bk19) _).next u405 (fun i hi h => h))⟩
   exact ⟨fun a ha => ⟨KeepsFrom.of_updB hUr hcellsR, (⟨⟨⟨_, _, q9, _, _, _, _, htr, (by show asgP r xs0 (x.hm.map HM.mb) (rows.length + 1) u9 = _; rw [← hA9]; exact Prod.ext hq9 rfl), B408, hpl2.up6 h6A uT.u, by rw [hso2 q9 hq9, List.map_append, List.append_assoc]; rfl⟩, B406, hY.hc.hu.next uW.u (fun i hi h => TP.back hY.hc.hu hi h)⟩, (hrow2.up6 h6A (by omega) uT.u).f0, (hY.upd.mono fun i e => .inl (.inr e)).next uW.u (fun i hi h => TP.back (hY.upd.mono fun i e => .inl (.inr e)) hi h)⟩ : FT (FX (FX (FA mb pb sb) bk19) (w266.heap.size + 1)) pb c r am mb cm n (AF (FX (FX (FA mb pb sb) bk19) (w266.heap.size + 1)) (fun t u => asgP r xs0 t.ms (rows.length + 1) u) (max up rows.length) mb pb sb bk19 rows w266) id x _)⟩⟩
  have hq9 := Option.not_isSome_iff_eq_none.1 (fun h => by rw [h] at g46; cases g46)
  have hr2 := hno2 hq9
  rw [hr2] at hsb2 hpl2
  have lt_gp2 := hpl2.acc.lt
  refine go ?_
  refine c_drawnM follows (fun i => i = sb) (.look 0 (.look 1 (.look 2 (.look 3 (.look 5 (.look 6 (.look 7 (.act 4 (.act 8 (.look 9 (.look 10 (.look 11 (.look 12 (.look 13 (.act 14 .done .stop)))))) .stop) (.act 8 (.look 9 (.look 10 (.act 4 (.look 11 (.look 12 (.look 13 (.act 14 .done .stop)))) .stop))) .stop))))))))) (by kernel_rfl) fun w409 u410 => ?_
  have zu410 := u410.size
  try have Y411 := Sc.mk (Y401.u.nx u410)
  refine go ?_
  refine s_or ?_ ?_
  ·
   refine go ?_
   refine y_sliceTo (rows.length) underlying84 sizeOf38 rfl rfl rfl rfl (by rw [List.length_append, List.length_singleton]; omega) (by have := hpl2.acc.cap_le; rw [List.length_append, List.length_singleton] at this; omega) (y_same 58 (v := .slice ap2 rows.length cp2) rfl (by rw [hpl2.acc.sub0 (by simp)]) ?_)
   refine go ?_
   refine x_s fun w413 sw413 B415 u414 => ?_
   try have Y416 := Sc.mk (Y411.u.next u414 (fun i hi (h : i = sb) => show TP (FA mb pb sb) pb w0 i by first | omega | assumption | exact TP.back (Sc.u (by assumption)) hi h | exact TP.back (Sc.u (by assumption)) hi (TP.unfx h (by omega)) | exact Or.inl (by rw [h]; assumption) | exact h.elim (fun h => TP.back uPB.u hi h.fx) (fun h => by omega) | exact Or.inr ⟨h.2, h.1 ▸ hpl9.acc.blkT (h.1 ▸ h.2)⟩))
   refine go ?_
   have hUr := (((((((((Upd.refl (fun i => TP (FX (FA mb pb sb) bk19) pb w288 i) w288).nx u300).nx u366).next u374 (fun i hi (h : (i = gp9 ∧ pb ≤ i)) => show TP (FX (FA mb pb sb) bk19) pb w288 i by first | omega | assumption | exact TP.back (Sc.u (by assumption)) hi h | exact TP.back (Sc.u (by assumption)) hi (TP.unfx h (by omega)) | exact Or.inl (by rw [h]; assumption) | exact h.elim (fun h => TP.back uPB.u hi h.fx) (fun h => by omega) | exact Or.inr ⟨h.2, h.1 ▸ hpl9.acc.blkT (h.1 ▸ h.2)⟩)).next u378 (fun i hi (h : i = sb) => show TP (FX (FA mb pb sb) bk19) pb w288 i by first | omega | assumption | exact TP.back (Sc.u (by assumption)) hi h | exact TP.back (Sc.u (by assumption)) hi (TP.unfx h (by omega)) | exact Or.inl (by rw [h]; assumption) | exact h.elim (fun h => TP.back uPB.u hi h.fx) (fun h => by omega) | exact Or.inr ⟨h.2, h.1 ▸ hpl9.acc.blkT (h.1 ▸ h.2)⟩)).nx u392).next u399 (fun i hi (h : TQ (FA mb pb sb) pb w377 i) => show TP (FX (FA mb pb sb) bk19) pb w288 i by first | omega | assumption | exact TP.back (Sc.u (by assumption)) hi h | exact TP.back (Sc.u (by assumption)) hi (TP.unfx h (by omega)) | exact Or.inl (by rw [h]; assumption) | exact h.elim (fun h => TP.back uPB.u hi h.fx) (fun h => by omega) | exact Or.inr ⟨h.2, h.1 ▸ hpl9.acc.blkT (h.1 ▸ h.2)⟩)).nx u410).next u414 (fun i hi (h : i = sb) => show TP (FX (FA mb pb sb) bk19) pb w288 i by first | omega | assumption | exact TP.back (Sc.u (by assumption)) hi h | exact TP.back (Sc.u (by assumption)) hi (TP.unfx h (by omega)) | exact Or.inl (by rw [h]; assumption) | exact h.elim (fun h => TP.back uPB.u hi h.fx) (fun h => by omega) | exact Or.inr ⟨h.2, h.1 ▸ hpl9.acc.blkT (h.1 ▸ h.2)⟩))
   have uW : Sc (TP (FX (FX (FA mb pb sb) bk19) (w266.heap.size + 1)) pb w288) _ _ := ⟨hUr.mono (fun i h => h.fx)⟩
   have B417 := ((B402.kx u410).keep u414 (by omega))
   have uT : Sc (· = sb) w398 w413 := ⟨(((Upd.refl (· = sb) _).nx u410).next u414 (fun i hi h => h))⟩
   exact ⟨fun a ha => ⟨KeepsFrom.of_updB hUr hcellsR, (⟨⟨⟨_, _, _, _, tryF_step htr (by show asgP r xs0 (x.hm.map HM.mb) (rows.length + 1) u9 = _; rw [← hA9]; exact Prod.ext hq9 rfl), B415, hpl2.pop.upd uT.u (fun hb e => hpl2.nf hb (.inr e)) (fun q hq hb e => hpl2.pop.mf q hq hb (.inr e))⟩, B417, hY.hc.hu.next uW.u (fun i hi h => TP.back hY.hc.hu hi h)⟩, (hrow2.tpS hp.hsm hp.hcs (.inr rfl) hsb (uT.u.mono fun i e => .inl e)).toF hY.row.row, (hY.upd.mono fun i e => .inl (.inr e)).next uW.u (fun i hi h => TP.back (hY.upd.mono fun i e => .inl (.inr e)) hi h)⟩ : ZT (FX (FX (FA mb pb sb) bk19) (w266.heap.size + 1)) pb c r am mb cm n (AC (FX (FX (FA mb pb sb) bk19) (w266.heap.size + 1)) (fun t u => asgP r xs0 t.ms (rows.length + 1) u) (max up rows.length) mb pb sb bk19 rows w266) x _)⟩⟩
  refine go ?_
  refine y_sliceTo (rows.length) underlying84 sizeOf38 rfl rfl rfl rfl (by rw [List.length_append, List.length_singleton]; omega) (by have := hpl2.acc.cap_le; rw [List.length_append, List.length_singleton] at this; omega) (y_same 58 (v := .slice ap2 rows.length cp2) rfl (by rw [hpl2.acc.sub0 (by simp)]) ?_)
  refine go ?_
  refine x_s fun w419 sw419 B421 u420 => ?_
  try have Y422 := Sc.mk (Y411.u.next u420 (fun i hi (h : i = sb) => show TP (FA mb pb sb) pb w0 i by first | omega | assumption | exact TP.back (Sc.u (by assumption)) hi h | exact TP.back (Sc.u (by assumption)) hi (TP.unfx h (by omega)) | exact Or.inl (by rw [h]; assumption) | exact h.elim (fun h => TP.back uPB.u hi h.fx) (fun h => by omega) | exact Or.inr ⟨h.2, h.1 ▸ hpl9.acc.blkT (h.1 ▸ h.2)⟩))
  refine go ?_
  have hUr := (((((((((Upd.refl (fun i => TP (FX (FA mb pb sb) bk19) pb w288 i) w288).nx u300).nx u366).next u374 (fun i hi (h : (i = gp9 ∧ pb ≤ i)) => show TP (FX (FA mb pb sb) bk19) pb w288 i by first | omega | assumption | exact TP.back (Sc.u (by assumption)) hi h | exact TP.back (Sc.u (by assumption)) hi (TP.unfx h (by omega)) | exact Or.inl (by rw [h]; assumption) | exact h.elim (fun h => TP.back uPB.u hi h.fx) (fun h => by omega) | exact Or.inr ⟨h.2, h.1 ▸ hpl9.acc.blkT (h.1 ▸ h.2)⟩)).next u378 (fun i hi (h : i = sb) => show TP (FX (FA mb pb sb) bk19) pb w288 i by first | omega | assumption | exact TP.back (Sc.u (by assumption)) hi h | exact TP.back (Sc.u (by assumption)) hi (TP.unfx h (by omega)) | exact Or.inl (by rw [h]; assumption) | exact h.elim (fun h => TP.back uPB.u hi h.fx) (fun h => by omega) | exact Or.inr ⟨h.2, h.1 ▸ hpl9.acc.blkT (h.1 ▸ h.2)⟩)).nx u392).next u399 (fun i hi (h : TQ (FA mb pb sb) pb w377 i) => show TP (FX (FA mb pb sb) bk19) pb w288 i by first | omega | assumption | exact TP.back (Sc.u (by assumption)) hi h | exact TP.back (Sc.u (by assumption)) hi (TP.unfx h (by omega)) | exact Or.inl (by rw [h]; assumption) | exact h.elim (fun h => TP.back uPB.u hi h.fx) (fun h => by omega) | exact Or.inr ⟨h.2, h.1 ▸ hpl9.acc.blkT (h.1 ▸ h.2)⟩)).nx u410).next u420 (fun i hi (h : i = sb) => show TP (FX (FA mb pb sb) bk19) pb w288 i by first | omega | assumption | exact TP.back (Sc.u (by assumption)) hi h | exact TP.back (Sc.u (by assumption)) hi (TP.unfx h (by omega)) | exact Or.inl (by rw [h]; assumption) | exact h.elim (fun h => TP.back uPB.u hi h.fx) (fun h => by omega) | exact Or.inr ⟨h.2, h.1 ▸ hpl9.acc.blkT (h.1 ▸ h.2)⟩))
  have uW : Sc (TP (FX (FX (FA mb pb sb) bk19) (w266.heap.size + 1)) pb w288) _ _ := ⟨hUr.mono (fun i h => h.fx)⟩
  have B423 := ((B402.kx u410).keep u420 (by omega))
  have uT : Sc (· = sb) w398 w419 := ⟨(((Upd.refl (· = sb) _).nx u410).next u420 (fun i hi h => h))⟩
  exact ⟨fun a ha => ⟨KeepsFrom.of_updB hUr hcellsR, (⟨⟨⟨_, _, _, _, tryF_step htr (by show asgP r xs0 (x.hm.map HM.mb) (rows.length + 1) u9 = _; rw [← hA9]; exact Prod.ext hq9 rfl), B421, hpl2.pop.upd uT.u (fun hb e => hpl2.nf hb (.inr e)) (fun q hq hb e => hpl2.pop.mf q hq hb (.inr e))⟩, B423, hY.hc.hu.next uW.u (fun i hi h => TP.back hY.hc.hu hi h)⟩, (hrow2.tpS hp.hsm hp.hcs (.inr rfl) hsb (uT.u.mono fun i e => .inl e)).toF hY.row.row, (hY.upd.mono fun i e => .inl (.inr e)).next uW.u (fun i hi h => TP.back (hY.upd.mono fun i e => .inl (.inr e)) hi h)⟩ : ZT (FX (FX (FA mb pb sb) bk19) (w266.heap.size + 1)) pb c r am mb cm n (AC (FX (FX (FA mb pb sb) bk19) (w266.heap.size + 1)) (fun t u => asgP r xs0 t.ms (rows.length + 1) u) (max up rows.length) mb pb sb bk19 rows w266) x _)⟩⟩
 ·
  have D426 := (((((((((show Marks w0.heap.size [] w0 from trivial).keepB u7 (CellsB.of (CellsIn.none _))).keepB u12 (CellsB.of (CellsIn.none _))).keepB u17 (CellsB.of (CellsIn.none _))).keepB u22 (CellsB.of (CellsIn.none _))).keepB u26 (CellsB.of (CellsIn.none _))).keepB u240 (CellsB.of (B238).cellsIn)).keepB u261 (CellsB.of (CellsIn.none _))).keepB u267 (CellsB.of (CellsIn.none _)))
  have hmk0 := D426
  have hmc0 := (TP.cellsB6 (F := (FA mb pb sb)) (pb := pb) (B := w0.heap.size) (w := w266) (fun i h => (hFAl i h).2) B270)
  intro D425 w424 hD425 hE hdD425
  have hu9 : Sc (TP (FX (FA mb pb sb) bk19) pb w266) w266 w424 := ⟨⟨hE.hu.os, hE.hu.tape, hE.hu.output, hE.hu.size, fun k hk hn => hE.hu.block k hk (fun h => hn (h.unfx (by omega)))⟩⟩
  have zhu9 := hu9.u.size
  try have Y427 := Sc.mk (Y269.u.next hu9.u (fun i hi (h : TP (FX (FA mb pb sb) bk19) pb w266 i) => show TP (FA mb pb sb) pb w0 i by first | omega | assumption | exact TP.back (Sc.u (by assumption)) hi h | exact TP.back (Sc.u (by assumption)) hi (TP.unfx h (by omega)) | exact Or.inl (by rw [h]; assumption) | exact h.elim (fun h => TP.back uPB.u hi h.fx) (fun h => by omega) | exact Or.inr ⟨h.2, h.1 ▸ hpl9.acc.blkT (h.1 ▸ h.2)⟩))
  obtain ⟨pr9, v9, po9, e9, hAF9⟩ := hE.hi
  obtain ⟨u1E, uE, qE, rowsE, apE, gpE, cpE, htE, hfE, hsbE, hplE, hmE⟩ := hAF9.ex
  have mk428 := (hmk0.keepB hu9.u hmc0).push (D := D425) (by omega) hdD425 (fun d hd D' e => Nat.lt_of_lt_of_le (hmk0.lt d hd D' e) hD425)
  refine go ?_
  have hrowE : RowC (FA mb pb sb) pb c r am mb cm n ms _ := hE.row.toF hp.row.row
  have hmkE := mk428
  refine f_retMc1 (v := .bool true) results57 (.cell mk428 rfl isAgg4 hAF9.b6 rfl) mk428 (fun w429 u430 omw429 => ?_)
  have zu430 := u430.size
  try have Y431 := Sc.mk (Y427.u.next u430 (fun i hi (h : w0.heap.size ≤ i) => show TP (FA mb pb sb) pb w0 i by first | omega | assumption | exact TP.back (Sc.u (by assumption)) hi h | exact TP.back (Sc.u (by assumption)) hi (TP.unfx h (by omega)) | exact Or.inl (by rw [h]; assumption) | exact h.elim (fun h => TP.back uPB.u hi h.fx) (fun h => by omega) | exact Or.inr ⟨h.2, h.1 ▸ hpl9.acc.blkT (h.1 ▸ h.2)⟩))
  have hres := tryF_hit (post := po9) htE hfE
  rw [← e9, ← hasg] at hres
  rw [hres]
  exact ⟨rfl, ⟨rowsE, apE, gpE, cpE, hsbE.keep omw429 (hmkE.notBlk hsbE), (hplE).bent omw429 (fun i hi => (hmkE.bent i hi).2), fun h => (by cases h), fun p h => by
    injection h with h; subst h; exact hmE⟩, (RowC.bent (B := w0.heap.size) (by omega) _ _ _ _ (hrowE) omw429 hmkE.bent), Y431.u⟩
 ·
  have D434 := (((((((((show Marks w0.heap.size [] w0 from trivial).keepB u7 (CellsB.of (CellsIn.none _))).keepB u12 (CellsB.of (CellsIn.none _))).keepB u17 (CellsB.of (CellsIn.none _))).keepB u22 (CellsB.of (CellsIn.none _))).keepB u26 (CellsB.of (CellsIn.none _))).keepB u240 (CellsB.of (B238).cellsIn)).keepB u261 (CellsB.of (CellsIn.none _))).keepB u267 (CellsB.of (CellsIn.none _)))
  have hmk0 := D434
  have hmc0 := (TP.cellsB6 (F := (FA mb pb sb)) (pb := pb) (B := w0.heap.size) (w := w266) (fun i h => (hFAl i h).2) B270)
  intro D433 w432 hD433 hE hdD433
  have hu9 : Sc (TP (FX (FA mb pb sb) bk19) pb w266) w266 w432 := ⟨⟨hE.hu.os, hE.hu.tape, hE.hu.output, hE.hu.size, fun k hk hn => hE.hu.block k hk (fun h => hn (h.unfx (by omega)))⟩⟩
  have zhu9 := hu9.u.size
  try have Y435 := Sc.mk (Y269.u.next hu9.u (fun i hi (h : TP (FX (FA mb pb sb) bk19) pb w266 i) => show TP (FA mb pb sb) pb w0 i by first | omega | assumption | exact TP.back (Sc.u (by assumption)) hi h | exact TP.back (Sc.u (by assumption)) hi (TP.unfx h (by omega)) | exact Or.inl (by rw [h]; assumption) | exact h.elim (fun h => TP.back uPB.u hi h.fx) (fun h => by omega) | exact Or.inr ⟨h.2, h.1 ▸ hpl9.acc.blkT (h.1 ▸ h.2)⟩))
  obtain ⟨uE, apE, gpE, cpE, htE, hsbE, hplE⟩ := hE.hi.ex
  have mk436 := (hmk0.keepB hu9.u hmc0).push (D := D433) (by omega) hdD433 (fun d hd D' e => Nat.lt_of_lt_of_le (hmk0.lt d hd D' e) hD433)
  refine go ?_
  have k438 := hE.hi.b6
  refine x_s fun w439 sw439 B441 u440 => ?_
  try have Y442 := Sc.mk (Y435.u.next u440 (fun i hi (h : i = bk19) => show TP (FA mb pb sb) pb w0 i by first | omega | assumption | exact TP.back (Sc.u (by assumption)) hi h | exact TP.back (Sc.u (by assumption)) hi (TP.unfx h (by omega)) | exact Or.inl (by rw [h]; assumption) | exact h.elim (fun h => TP.back uPB.u hi h.fx) (fun h => by omega) | exact Or.inr ⟨h.2, h.1 ▸ hpl9.acc.blkT (h.1 ▸ h.2)⟩))
  refine go ?_
  have B443 := (hsbE.keep u440 (by omega))
  have uT : Sc (· = bk19) w432 w439 := ⟨((Upd.refl (· = bk19) _).next u440 (fun i hi h => h))⟩
  have hrowE : RowC (FA mb pb sb) pb c r am mb cm n ms w439 := (hE.row.toF hp.row.row).up6 hE.hi.b6 (by omega) uT.u
  have hplE9 := hplE.up6 hE.hi.b6 uT.u
  have D446 := (mk436.keepB u440 (CellsB.of (k438).cellsIn))
  have hmkE := D446
  refine f_retMc1 (v := .bool false) results57 (.cell D446 rfl isAgg4 B441 rfl) D446 (fun w444 u445 omw444 => ?_)
  have zu445 := u445.size
  try have Y447 := Sc.mk (Y442.u.next u445 (fun i hi (h : w0.heap.size ≤ i) => show TP (FA mb pb sb) pb w0 i by first | omega | assumption | exact TP.back (Sc.u (by assumption)) hi h | exact TP.back (Sc.u (by assumption)) hi (TP.unfx h (by omega)) | exact Or.inl (by rw [h]; assumption) | exact h.elim (fun h => TP.back uPB.u hi h.fx) (fun h => by omega) | exact Or.inr ⟨h.2, h.1 ▸ hpl9.acc.blkT (h.1 ▸ h.2)⟩))
  rw [← hasg] at htE
  rw [htE]
  exact ⟨rfl, ⟨rows, apE, gpE, cpE, B443.keep omw444 (hmkE.notBlk B443), (hplE9).bent omw444 (fun i hi => (hmkE.bent i hi).2), fun _ => rfl, fun p h => (by cases h)⟩, (RowC.bent (B := w0.heap.size) (by omega) _ _ _ _ (hrowE) omw444 hmkE.bent), Y447.u⟩

end Go.Proofs.YtclinbbghnebaaaGreat
