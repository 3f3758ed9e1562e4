/-
  Part 9 of the proof: contracts and plain laws. Conditions: none.
-/
import Derived.Test.YtagmodjadmecdaaGreatJK8
namespace Go.Proofs.YtagmodjadmecdaaGreat
open Go Go.RowKit Tryz

theorem teams1_c (r : Rul) (x : Leg) (pb c : Nat) (am : Option Addr) (mb cm n B : Nat) : ∀ need, TeamsQ Tryz.prog r x pb c am mb cm n B need := by
  intro need
  induction need using Nat.strongRecOn with
  | _ need ih => exact fun F l D C Cf R Rf φ b7 b5 b6 b4 i0 nums an gn cn pl ms w0 hp => teams1_s r x pb c am mb cm n B need F l D C Cf R Rf φ b7 b5 b6 b4 i0 nums an gn cn pl ms w0 hp ih
structure HR where
  xs : List Int
  ao : Option Addr
  g : Nat
  cap : Nat
instance : Inhabited HR := ⟨⟨default, default, default, default⟩⟩
def encHR (h : HR) : List Value := [.slice h.ao h.xs.length h.cap]
def HT.hr (x : HT) : HR := ⟨x.nums, x.ao, x.g, x.cap⟩
structure PlanM (F : Nat → Prop) (pb : Nat) (w : World) (ap : Option Addr) (gp cp : Nat) (rows : List HR) : Prop where
  acc : Acc encHR 1 60 pb w ap gp cp rows
  nf : pb ≤ gp → ¬ F gp
  mem : ∀ h ∈ rows, Acc encI 1 3 pb w h.ao h.g h.cap h.xs
  mf : ∀ h ∈ rows, pb ≤ h.g → ¬ F h.g
theorem PlanM.upd {F S : Nat → Prop} {pb : Nat} {w w' : World} {ap : Option Addr} {gp cp : Nat} {rows : List HR} (h : PlanM F pb w ap gp cp rows) (u : Upd S w w') (h1 : pb ≤ gp → ¬ S gp) (h2 : ∀ q ∈ rows, pb ≤ q.g → ¬ S q.g) : PlanM F pb w' ap gp cp rows :=
  ⟨h.acc.keep u h1, h.nf, fun q hq => (h.mem q hq).keep u (h2 q hq), h.mf⟩
theorem PlanM.ext {F : Nat → Prop} {pb : Nat} {w w' : World} {ap : Option Addr} {gp cp : Nat} {rows : List HR} (h : PlanM F pb w ap gp cp rows) (u : Ext w w') : PlanM F pb w' ap gp cp rows := h.upd u (fun _ q => q) (fun _ _ _ q => q)
theorem PlanM.bent {F : Nat → Prop} {pb : Nat} {w w' : World} {S : Nat → Prop} {ap : Option Addr} {gp cp : Nat} {rows : List HR} (h : PlanM F pb w ap gp cp rows) (u : Upd S w w') (hS : ∀ i, S i → ∀ c t f, w.heap[i]? ≠ some (.cells c t f)) : PlanM F pb w' ap gp cp rows := by
  have key : ∀ {α : Type} {enc : α → List Value} {k e : Nat} {ao : Option Addr} {g cap : Nat} {xs : List α}, Acc enc k e pb w ao g cap xs → pb ≤ g → ¬ S g := fun ha hb hs => by
    rcases ha.at_ with ⟨_, _, _, h1⟩ | ⟨_, _, cur, h1, _⟩
    · omega
    · exact hS _ hs _ _ _ h1
  exact h.upd u (key h.acc) (fun q hq => key (h.mem q hq))
def tryF (f : Tm → Nat → Option (List (List Int)) × Nat) : List Tm → Nat → Option (List (List Int)) × Nat
  | [], u => (none, u)
  | t :: ts, u => match f t u with
    | (some p, u') => (some (t.nums :: p), u')
    | (none, u') => tryF f ts u'
theorem tryF_no {f : Tm → Nat → Option (List (List Int)) × Nat} {t : Tm} {ts : List Tm} : ∀ {pre : List Tm} {u u1 : Nat}, tryF f pre u = (none, u1) → tryF f (pre ++ t :: ts) u = tryF f (t :: ts) u1
  | [], u, u1, h => by simp only [tryF, Prod.mk.injEq, true_and] at h; rw [h]; rfl
  | p :: pre, u, u1, h => by
    rw [List.cons_append, tryF]
    rw [tryF] at h
    split at h
    · cases h
    · exact tryF_no h
def asgP (r : Rul) : List Leg → List Mb → Nat → Nat → Option (List (List Int)) × Nat
  | [], _, k, u => (some [], max u k)
  | x :: xs, ms, k, u => tryF (fun t u => asgP r xs t.ms (k + 1) u) (teamsP r x x.h.toNat 0 [] 0 ms) (max u k)
def FA (mb pb sb : Nat) (i : Nat) : Prop := MB mb pb i ∨ i = sb
theorem Acc.blkT {α : Type} {enc : α → List Value} {k : Nat} {e : TypeId} {base : Nat} {w : World} {ao : Option Addr} {g cap : Nat} {xs : List α} (h : Acc enc k e base w ao g cap xs) (hb : base ≤ g) : ∃ cs, Blk w g e cs := by
  rcases h.at_ with ⟨_, _, _, h1⟩ | ⟨_, _, cur, h1, _⟩
  · omega
  · exact ⟨cur.toList, by simpa [Blk] using h1⟩
theorem Acc.sub0 {α : Type} {enc : α → List Value} {k k' : Nat} {e : TypeId} {base : Nat} {w : World} {ao : Option Addr} {g cap : Nat} {xs : List α} (h : Acc enc k e base w ao g cap xs) (hp : 0 < xs.length) : subAddr ao cap 0 k' = ao := by
  rcases h.at_ with ⟨_, h1, _⟩ | ⟨h1, _, cur, _, h2, _⟩
  · rw [h1] at hp; cases hp
  · rw [h1, subAddr_some (by omega)]; simp
theorem Acc.pop {α : Type} {enc : α → List Value} {k : Nat} {e : TypeId} {base : Nat} {w : World} {ao : Option Addr} {g cap : Nat} {xs : List α} {y : α} (hk : ∀ x, (enc x).length = k) (h : Acc enc k e base w ao g cap (xs ++ [y])) : Acc enc k e base w ao g cap xs := by
  refine ⟨h.lt, ?_⟩
  rcases h.at_ with ⟨_, h1, _⟩ | ⟨h1, h2, cur, h3, h4, h5, h6, h7⟩
  · simp at h1
  · refine .inr ⟨h1, h2, cur, h3, by simp at h4; omega, h5, h6, ?_⟩
    have h8 : (xs ++ [y]).length * k = xs.length * k + k := by simp [Nat.add_mul]
    rw [h8] at h7
    have h9 := congrArg (List.take (xs.length * k)) h7
    rw [List.take_take, Nat.min_eq_left (by omega), List.flatMap_append] at h9
    rw [h9, List.take_append_of_le_length (by rw [flatMap_len hk]; omega), List.take_of_length_le (by rw [flatMap_len hk]; omega)]
theorem RowC.tpS {F : Nat → Prop} {pb c sb : Nat} {r : Rul} {am : Option Addr} {mb cm n : Nat} {ms : List HM} {w w' : World} (h : RowC F pb c r am mb cm n ms w) (hsm : pb ≤ mb → mb ≠ sb) (hc : c ≠ sb) (hF : F sb) (hb : pb ≤ sb) (u : Upd (TP (fun i => i = sb) pb w) w w') : RowC F pb c r am mb cm n ms w' :=
  ⟨⟨h.row.acc.keep u (h.row.acc.notTP (fun q => hsm q) (by decide)), fun m hm => by
    have q := h.row.mem m hm
    exact q.upd u (fun hp hq => by have h1 := q.hb hp; exact hq.elim (fun e => by omega) (fun e => by omega)) (q.ht.notTP (fun hb e => q.hn hb (e ▸ hF)) (by decide))⟩, h.blk.keep u (TP.not hc h.blk (by decide)), h.len⟩
theorem Blk.neT {w : World} {a b : Nat} {t t' : TypeId} {cs cs' : List Value} (h : Blk w a t cs) (h' : Blk w b t' cs') (ht : t ≠ t') : a ≠ b := fun e => by
  subst e; unfold Blk at h h'; rw [h] at h'; injection h' with h'; injection h' with _ h'; exact ht h'
theorem RowC.up6 {F : Nat → Prop} {pb c t6 : Nat} {r : Rul} {am : Option Addr} {mb cm n : Nat} {ms : List HM} {w w' : World} {cs : List Value} (h : RowC F pb c r am mb cm n ms w) (h6 : Blk w t6 4 cs) (hb : pb ≤ t6) (u : Upd (· = t6) w w') : RowC F pb c r am mb cm n ms w' :=
  ⟨⟨h.row.acc.keep u (h.row.acc.neBlk h6 (by decide)), fun m hm => have q := h.row.mem m hm; q.upd u (fun hp e => by have := q.hb hp; omega) (q.ht.neBlk h6 (by decide))⟩, h.blk.keep u (h.blk.neT h6 (by decide)), h.len⟩
theorem PlanM.up6 {F : Nat → Prop} {pb t6 : Nat} {w w' : World} {ap : Option Addr} {gp cp : Nat} {rows : List HR} {cs : List Value} (h : PlanM F pb w ap gp cp rows) (h6 : Blk w t6 4 cs) (u : Upd (· = t6) w w') : PlanM F pb w' ap gp cp rows :=
  h.upd u (h.acc.neBlk h6 (by decide)) (fun q hq => (h.mem q hq).neBlk h6 (by decide))
theorem PlanM.push {F : Nat → Prop} {pb sb : Nat} {w w' : World} {ap ap' : Option Addr} {gp cp gp' cp' : Nat} {rows : List HR} {y : HR} (h : PlanM F pb w ap gp cp rows) (hs : F sb) (u : Upd (TP (fun i => i = sb) pb w) w w') (ha : Acc encHR 1 60 pb w' ap' gp' cp' (rows ++ [y])) (hg : pb ≤ gp' → ¬ F gp') (hy : Acc encI 1 3 pb w y.ao y.g y.cap y.xs) (hyf : pb ≤ y.g → ¬ F y.g) : PlanM F pb w' ap' gp' cp' (rows ++ [y]) := by
  refine ⟨ha, hg, fun q hq => ?_, fun q hq => ?_⟩
  · rcases List.mem_append.1 hq with e | e
    · exact (h.mem q e).keep u ((h.mem q e).notTP (fun hb e2 => h.mf q e hb (e2 ▸ hs)) (by decide))
    · rw [List.mem_singleton.1 e]; exact hy.keep u (hy.notTP (fun hb e2 => hyf hb (e2 ▸ hs)) (by decide))
  · rcases List.mem_append.1 hq with e | e
    · exact h.mf q e
    · rw [List.mem_singleton.1 e]; exact hyf
theorem PlanM.pop {F : Nat → Prop} {pb : Nat} {w : World} {ap : Option Addr} {gp cp : Nat} {rows : List HR} {y : HR} (h : PlanM F pb w ap gp cp (rows ++ [y])) : PlanM F pb w ap gp cp rows := ⟨h.acc.pop (fun _ => rfl), h.nf, fun q hq => h.mem q (List.mem_append_left _ hq), fun q hq => h.mf q (List.mem_append_left _ hq)⟩
theorem TP.cellsB6 {F : Nat → Prop} {pb B t6 : Nat} {w : World} {t : TypeId} {cs : List Value} (hF : ∀ i, F i → i < B) (h6 : Blk w t6 t cs) : ∀ k, B ≤ k → k < w.heap.size → TP (FX F t6) pb w k → ∃ cur t f, w.heap[k]? = some (.cells cur t f) := fun k hB _ h => by
  rcases h with (h | h) | ⟨_, cs, h⟩
  · have := hF k h; omega
  · subst h; exact ⟨_, _, _, h6⟩
  · exact ⟨_, _, _, h⟩
theorem RowC.f0 {F : Nat → Prop} {pb c : Nat} {r : Rul} {am : Option Addr} {mb cm n : Nat} {ms : List HM} {w : World} (h : RowC F pb c r am mb cm n ms w) : RowC F0 pb c r am mb cm n ms w := h.mono (fun _ _ _ q => q.elim)
theorem tryF_step {f : Tm → Nat → Option (List (List Int)) × Nat} {t : Tm} {pre : List Tm} {u u1 u2 : Nat} (h : tryF f pre u = (none, u1)) (h2 : f t u1 = (none, u2)) : tryF f (pre ++ [t]) u = (none, u2) := by rw [tryF_no h, tryF, h2]; rfl
theorem tryF_hit {f : Tm → Nat → Option (List (List Int)) × Nat} {t : Tm} {pre post : List Tm} {u u1 u2 : Nat} {p : List (List Int)} (h : tryF f pre u = (none, u1)) (h2 : f t u1 = (some p, u2)) : tryF f (pre ++ t :: post) u = (some (t.nums :: p), u2) := by rw [tryF_no h, tryF, h2]
structure AsgH (r : Rul) (pb c : Nat) (am : Option Addr) (mb cm n sb : Nat) (xs : List Leg) (ax : Option Addr) (bx ox cx : Nat) (ms : List HM) (rows : List HR) (ap : Option Addr) (gp cp up : Nat) (w0 : World) : Prop where
  hr : okRul r = true
  hxs : ∀ x ∈ xs, okLeg x = true
  hB : ∀ m ∈ ms, m.ts.length + 3 * xs.length ≤ 90
  legs : Sl encLeg 7 w0 ax bx ox xs
  hcx : xs.length ≤ cx
  hbx : 0 < xs.length → ¬ FA mb pb sb bx ∧ (pb ≤ bx → ∃ t cs, t ≠ 60 ∧ Blk w0 bx t cs)
  sblk : Blk w0 sb 122 [.slice ap rows.length cp, .int .i64 (up : Int)]
  plan : PlanM (FA mb pb sb) pb w0 ap gp cp rows
  row : RowC (FA mb pb sb) pb c r am mb cm n ms w0
  hcm : pb ≤ mb → c ≠ mb
  hcs : c ≠ sb
  hsb : pb ≤ sb
  hsm : pb ≤ mb → mb ≠ sb
  hn : n ≤ 6
  hrl : rows.length + xs.length ≤ 30
  hpb : 0 < pb ∧ pb ≤ w0.heap.size
def AsgR (r : Rul) (pb c : Nat) (am : Option Addr) (mb cm n sb : Nat) (ms : List HM) (rows : List HR) (a : Option (List (List Int)) × Nat) (w0 : World) (v : Value) (w' : World) : Prop :=
  v = .bool a.1.isSome ∧ (∃ rows' ap' gp' cp', Blk w' sb 122 [.slice ap' (List.length rows') cp', .int .i64 (a.2 : Int)] ∧ PlanM (FA mb pb sb) pb w' ap' gp' cp' rows' ∧ (a.1 = none → rows' = rows) ∧ (∀ p, a.1 = some p → rows'.map HR.xs = rows.map HR.xs ++ p)) ∧ RowC (FA mb pb sb) pb c r am mb cm n ms w' ∧ Upd (TP (FA mb pb sb) pb w0) w0 w'
def AsgQ (P : Program) (xs : List Leg) : Prop := ∀ r pb c am mb cm n sb ax bx ox cx ms rows ap gp cp up w0, AsgH r pb c am mb cm n sb xs ax bx ox cx ms rows ap gp cp up w0 →
  CallsV P 58 [.pointer (some ⟨c, 0, none⟩), .pointer (some ⟨sb, 0, none⟩), .slice ax xs.length cx] w0 (fun v w' => AsgR r pb c am mb cm n sb ms rows (asgP r xs (ms.map HM.mb) rows.length up) w0 v w')
def TQ (F : Nat → Prop) (pb : Nat) (w : World) (i : Nat) : Prop := TP F pb w i ∨ w.heap.size ≤ i
theorem TQ.of {F : Nat → Prop} {pb : Nat} {w w' : World} (u : Ext w w') {i : Nat} (h : TP F pb w' i) : TQ F pb w i := (Nat.lt_or_ge i w.heap.size).elim (fun hi => .inl (TP.backE u hi h)) .inr
theorem TQ.not {F : Nat → Prop} {pb b : Nat} {w w' : World} {t : TypeId} {cs : List Value} (u : Ext w w') (hF : ¬ F b) (hb : b < w.heap.size) (h : Blk w' b t cs) (ht : t ≠ 60) : ¬ TQ F pb w b := by
  rintro ((q | ⟨_, cs', q⟩) | q)
  · exact hF q
  · exact absurd (show b = b from rfl) (h.neT (q.kx u) ht)
  · omega
def AsgT (r : Rul) (pb c : Nat) (am : Option Addr) (mb cm n sb : Nat) (ms : List HM) (rows : List HR) (a : Option (List (List Int)) × Nat) (wr w0 : World) (v : Value) (w' : World) : Prop :=
  v = .bool a.1.isSome ∧ (∃ rows' ap' gp' cp', Blk w' sb 122 [.slice ap' (List.length rows') cp', .int .i64 (a.2 : Int)] ∧ PlanM (FA mb pb sb) pb w' ap' gp' cp' rows' ∧ (a.1 = none → rows' = rows) ∧ (∀ p, a.1 = some p → rows'.map HR.xs = rows.map HR.xs ++ p)) ∧ RowC (FA mb pb sb) pb c r am mb cm n ms w' ∧ Upd (TQ (FA mb pb sb) pb wr) w0 w'
theorem AsgR.t {r : Rul} {pb c : Nat} {am : Option Addr} {mb cm n sb : Nat} {ms : List HM} {rows : List HR} {a : Option (List (List Int)) × Nat} {wr w0 : World} {v : Value} {w' : World} (h : AsgR r pb c am mb cm n sb ms rows a w0 v w') (u : Ext wr w0) : AsgT r pb c am mb cm n sb ms rows a wr w0 v w' := ⟨h.1, h.2.1, h.2.2.1, h.2.2.2.mono (fun _ q => TQ.of u q)⟩
structure AC (F : Nat → Prop) (f : Tm → Nat → Option (List (List Int)) × Nat) (u0 mb pb sb t6 : Nat) (rows : List HR) (wR : World) (pre : List Tm) (W : World) : Prop where
  ex : ∃ u ap gp cp, tryF f pre u0 = (none, u) ∧ Blk W sb 122 [.slice ap rows.length cp, .int .i64 (u : Int)] ∧ PlanM (FA mb pb sb) pb W ap gp cp rows
  b6 : Blk W t6 4 [.bool false]
  hu : Upd (TP F pb wR) wR W
structure AF (F : Nat → Prop) (f : Tm → Nat → Option (List (List Int)) × Nat) (u0 mb pb sb t6 : Nat) (rows : List HR) (wR : World) (p : List Tm × Tm) (W : World) : Prop where
  ex : ∃ u1 u q rows' ap gp cp, tryF f p.1 u0 = (none, u1) ∧ f p.2 u1 = (some q, u) ∧ Blk W sb 122 [.slice ap (List.length rows') cp, .int .i64 (u : Int)] ∧ PlanM (FA mb pb sb) pb W ap gp cp rows' ∧ rows'.map HR.xs = rows.map HR.xs ++ p.2.nums :: q
  b6 : Blk W t6 4 [.bool true]
  hu : Upd (TP F pb wR) wR W
theorem AC.mb {F : Nat → Prop} {f : Tm → Nat → Option (List (List Int)) × Nat} {u0 mb pb sb t6 : Nat} {rows : List HR} {wR : World} (hsm : pb ≤ mb → mb ≠ sb) (h6 : pb ≤ mb → mb ≠ t6) (hF : pb ≤ mb → F mb) (pre : List Tm) (W W' : World) (h : AC F f u0 mb pb sb t6 rows wR pre W) (u : Upd (MB mb pb) W W') : AC F f u0 mb pb sb t6 rows wR pre W' := by
  obtain ⟨v, ap, gp, cp, h1, h3, h4⟩ := h.ex
  exact ⟨⟨v, ap, gp, cp, h1, h3.keep u (fun q => hsm (q.1 ▸ q.2) q.1.symm), h4.upd u (fun hb q => h4.nf hb (.inl q)) (fun x hx hb q => h4.mf x hx hb (.inl q))⟩, h.b6.keep u (fun q => h6 (q.1 ▸ q.2) q.1.symm), h.hu.next u (fun i _ q => .inl (q.1 ▸ hF (q.1 ▸ q.2)))⟩
theorem AF.mb {F : Nat → Prop} {f : Tm → Nat → Option (List (List Int)) × Nat} {u0 mb pb sb t6 : Nat} {rows : List HR} {wR : World} (hsm : pb ≤ mb → mb ≠ sb) (h6 : pb ≤ mb → mb ≠ t6) (hF : pb ≤ mb → F mb) (pre : List Tm × Tm) (W W' : World) (h : AF F f u0 mb pb sb t6 rows wR pre W) (u : Upd (MB mb pb) W W') : AF F f u0 mb pb sb t6 rows wR pre W' := by
  obtain ⟨u1, v, q, rows', ap, gp, cp, h1, h2, h3, h4, h5⟩ := h.ex
  exact ⟨⟨u1, v, q, rows', ap, gp, cp, h1, h2, h3.keep u (fun q => hsm (q.1 ▸ q.2) q.1.symm), h4.upd u (fun hb q => h4.nf hb (.inl q)) (fun x hx hb q => h4.mf x hx hb (.inl q)), h5⟩, h.b6.keep u (fun q => h6 (q.1 ▸ q.2) q.1.symm), h.hu.next u (fun i _ q => .inl (q.1 ▸ hF (q.1 ▸ q.2)))⟩
theorem AC.bent {F : Nat → Prop} {f : Tm → Nat → Option (List (List Int)) × Nat} {u0 mb pb sb t6 B : Nat} {rows : List HR} {wR : World} (hB : wR.heap.size ≤ B) : Bent B (AC F f u0 mb pb sb t6 rows wR) := fun pre W W' S h u hS => by
  obtain ⟨v, ap, gp, cp, h1, h3, h4⟩ := h.ex
  exact ⟨⟨v, ap, gp, cp, h1, h3.keep u (fun q => (hS _ q).2 _ _ _ h3), h4.bent u (fun i hi => (hS i hi).2)⟩, h.b6.keep u (fun q => (hS _ q).2 _ _ _ h.b6), h.hu.next u (fun i hi q => by have := (hS i q).1; omega)⟩
theorem AF.bent {F : Nat → Prop} {f : Tm → Nat → Option (List (List Int)) × Nat} {u0 mb pb sb t6 B : Nat} {rows : List HR} {wR : World} (hB : wR.heap.size ≤ B) : Bent B (AF F f u0 mb pb sb t6 rows wR) := fun pre W W' S h u hS => by
  obtain ⟨u1, v, q, rows', ap, gp, cp, h1, h2, h3, h4, h5⟩ := h.ex
  exact ⟨⟨u1, v, q, rows', ap, gp, cp, h1, h2, h3.keep u (fun q => (hS _ q).2 _ _ _ h3), h4.bent u (fun i hi => (hS i hi).2), h5⟩, h.b6.keep u (fun q => (hS _ q).2 _ _ _ h.b6), h.hu.next u (fun i hi q => by have := (hS i q).1; omega)⟩
theorem own58 : Own Tryz.prog 58 := ⟨Tryz.f58, func58, by kernel_rfl, by kernel_rfl⟩

set_option maxHeartbeats 1000000 in
theorem assign_s (r : Rul) (pb c : Nat) (am : Option Addr) (mb cm n sb : Nat) (xs : List Leg) (ax : Option Addr) (bx ox cx : Nat) (ms : List HM) (rows : List HR) (ap : Option Addr) (gp cp up : Nat) (w0 : World) (hp : AsgH r pb c am mb cm n sb xs ax bx ox cx ms rows ap gp cp up w0) (ih : ∀ x0 xs0, xs = x0 :: xs0 → AsgQ Tryz.prog xs0) :
    CallsV Tryz.prog 58 [.pointer (some ⟨c, 0, none⟩), .pointer (some ⟨sb, 0, none⟩), .slice ax xs.length cx] w0 (fun v w' => AsgR r pb c am mb cm n sb ms rows (asgP r xs (ms.map HM.mb) rows.length up) w0 v w') := by
 have hpb := hp.hpb
 have hn6 := hp.hn
 have lsb := hp.sblk.lt
 have lc := hp.row.blk.lt
 have lmb := hp.row.row.acc.lt
 have lgp := hp.plan.acc.lt
 have hrl := hp.hrl
 have hsb := hp.hsb
 have hlx : xs.length ≤ 1000000 := by omega
 have hFsb : FA mb pb sb sb := .inr rfl
 have hFAl : ∀ i, FA mb pb sb i → pb ≤ i ∧ i < w0.heap.size := fun i h => h.elim (fun h => ⟨h.2, by have := h.1; omega⟩) (fun e => ⟨by omega, by omega⟩)
 refine f_enterM (N := 61) func58 rfl rfl rfl (c_seq fun K1 hK1 => (c_region (t_box (cs := [.pointer (some ⟨c, 0, none⟩)]) rfl rfl rfl rfl (fun bk2 w3 ebk2 sbk2 B4 u5 => ?_))))
 have zu5 := u5.size
 refine t_box (cs := [.pointer (some ⟨sb, 0, none⟩)]) rfl rfl rfl rfl (fun bk7 w8 ebk7 sbk7 B9 u10 => ?_)
 have zu10 := u10.size
 refine t_box (cs := [.slice ax xs.length cx]) rfl rfl rfl rfl (fun bk12 w13 ebk12 sbk12 B14 u15 => ?_)
 have zu15 := u15.size
 refine t_alloc (cs := [.bool false]) zeroValue4 rfl rfl rfl (fun bk17 w18 ebk17 sbk17 B19 u20 => ?_)
 have zu20 := u20.size
 refine t_nil' (hK1 _ _ (c_seq fun K22 hK22 => (c_drawnM follows (fun i => i = sb) (.look 0 (.look 1 (.look 2 (.look 3 (.look 5 (.look 6 (.look 7 (.act 4 (.act 8 (.look 9 (.look 10 (.look 11 (.look 12 (.act 13 .done .stop))))) .stop) (.act 8 (.look 9 (.act 4 (.look 10 (.look 11 (.look 12 (.act 13 .done .stop)))) .stop)) .stop))))))))) (by kernel_rfl) fun w23 u24 => ?_)))
 have zu24 := u24.size
 have E25 := (((((Upd.refl (fun i => TP (FA mb pb sb) pb w0 i) w0).nx u5).nx u10).nx u15).nx u20).nx u24
 have B26 := (((B9.kx u15).kx u20).kx u24)
 refine y_load isAgg120 rfl rfl rfl (B26.get rfl) (by show ¬ (bk7 = sb); first | omega | assumption) (y_load isAgg120 rfl rfl rfl (B26.get rfl) (by show ¬ (bk7 = sb); first | omega | assumption) (y_nilchk rfl rfl rfl (y_field underlying122 rfl sizeOf3 (1) rfl rfl rfl rfl (y_load isAgg120 rfl rfl rfl (B26.get rfl) (by show ¬ (bk7 = sb); first | omega | assumption) (y_nilchk rfl rfl rfl (y_field underlying122 rfl sizeOf56 (0) rfl rfl rfl rfl (s_or ?_ ?_)))))))
 ·
  refine s_do ?_
  have B27 := (((((hp.sblk.kx u5).kx u10).kx u15).kx u20).kx u24)
  refine t_load isAgg3 rfl rfl rfl (B27.get rfl) (s_next (Upd.refl _ _) (s_do (t_load isAgg56 rfl rfl rfl (B27.get rfl) (s_next (Upd.refl _ _) (y_len underlying56 rfl rfl rfl rfl (y_max rfl rfl rfl rfl (y_nilchk rfl rfl rfl (y_field underlying122 rfl sizeOf3 (1) rfl rfl rfl rfl (s_do (t_st (vs := [.int .i64 (max (up : Int) (rows.length : Int))]) sizeOf3 rfl rfl rfl B27 rfl rfl rfl rfl (fun w28 sw28 B30 u29 => ?_)))))))))))
  have zu29 := u29.size
  have E31 := E25.next u29 (fun i hi (h : i = sb) => show TP (FA mb pb sb) pb w0 i by first | omega | assumption | exact TP.back (by assumption) hi h | exact TP.back (by assumption) hi (TP.unfx h (by omega)) | exact Or.inl (by rw [h]; assumption) | exact h.elim (fun h => TP.back uPB hi h.fx) (fun h => by omega) | exact Or.inr ⟨h.2, h.1 ▸ hpl9.acc.blkT (h.1 ▸ h.2)⟩)
  have B30 : Blk w28 sb 122 [.slice ap rows.length cp, .int .i64 (max (up : Int) (rows.length : Int))] := B30
  refine s_next ((Upd.refl _ _).next u29 (fun i hi (h : i = sb) => show w23.heap.size ≤ i ∨ (i = sb) by first | omega | exact .inr h)) (s_nil (hK22 _ _ (c_seq fun K32 hK32 => (c_seq fun K33 hK33 => (c_region ?_)))))
  have B34 := (((B14.kx u20).kx u24).keep u29 (by omega))
  refine t_load isAgg55 rfl rfl rfl (B34.get rfl) (t_len underlying55 rfl rfl rfl rfl (t_cmp rfl rfl rfl rfl rfl (t_nil' (hK33 _ _ (c_condp rfl (fun g23 => ?_) (fun g23 => ?_))))))
  ·
   have B35 : Blk w28 sb 122 [.slice ap rows.length cp, .int .i64 (((max up rows.length) : Nat) : Int)] := by
     have e : ([.slice ap rows.length cp, .int .i64 (max (up : Int) (rows.length : Int))] : List Value) = [.slice ap rows.length cp, .int .i64 (((max up rows.length) : Nat) : Int)] := (by rw [show (((max up rows.length) : Nat) : Int) = max (up : Int) (rows.length : Int) by omega])
     rw [← e]; exact B30
   refine c_seq fun K36 hK36 => (c_region ?_)
   have B37 := ((B19.kx u24).keep u29 (by omega))
   refine t_st (vs := [.bool true]) sizeOf4 rfl rfl rfl B37 rfl rfl rfl rfl (fun w38 sw38 B40 u39 => ?_)
   have zu39 := u39.size
   have B40 : Blk w38 bk17 4 [.bool true] := B40
   refine t_nil' (hK36 _ _ (c_ret ?_))
   have B42 := (B35.keep u39 (by omega))
   have uS : Upd (· = sb) w0 w38 := ((((((((Upd.refl (· = sb) _).nx u5).nx u10).nx u15).nx u20).nx u24).next u29 (fun i hi h => h)).next u39 (fun i hi h => by omega))
   have hrowE : RowC (FA mb pb sb) pb c r am mb cm n ms w38 := hp.row.tpS hp.hsm hp.hcs (.inr rfl) hsb (uS.mono fun i e => .inl e)
   have hplE : PlanM (FA mb pb sb) pb w38 ap gp cp rows := hp.plan.upd uS (fun hb e => hp.plan.nf hb (.inr e)) (fun q hq hb e => hp.plan.mf q hq hb (.inr e))
   have D45 := ((((((((show Marks w0.heap.size [] w0 from trivial).keepB u5 (CellsB.of (CellsIn.none _))).keepB u10 (CellsB.of (CellsIn.none _))).keepB u15 (CellsB.of (CellsIn.none _))).keepB u20 (CellsB.of (CellsIn.none _))).keepB u24 (CellsB.of (CellsIn.none _))).keepB u29 (CellsB.of (B27).cellsIn)).keepB u39 (CellsB.of (B37).cellsIn))
   have hmkE := D45
   refine f_retMc1 (v := .bool true) results58 (.cell D45 rfl isAgg4 B40 rfl) D45 (fun w43 u44 omw43 => ?_)
   have zu44 := u44.size
   have E46 := (E31.next u39 (fun i hi (h : i = bk17) => show TP (FA mb pb sb) pb w0 i by first | omega | assumption | exact TP.back (by assumption) hi h | exact TP.back (by assumption) hi (TP.unfx h (by omega)) | exact Or.inl (by rw [h]; assumption) | exact h.elim (fun h => TP.back uPB hi h.fx) (fun h => by omega) | exact Or.inr ⟨h.2, h.1 ▸ hpl9.acc.blkT (h.1 ▸ h.2)⟩)).next u44 (fun i hi (h : w0.heap.size ≤ i) => show TP (FA mb pb sb) pb w0 i by first | omega | assumption | exact TP.back (by assumption) hi h | exact TP.back (by assumption) hi (TP.unfx h (by omega)) | exact Or.inl (by rw [h]; assumption) | exact h.elim (fun h => TP.back uPB hi h.fx) (fun h => by omega) | exact Or.inr ⟨h.2, h.1 ▸ hpl9.acc.blkT (h.1 ▸ h.2)⟩)
   have hx0 : xs = [] := List.eq_nil_of_length_eq_zero (by omega)
   subst hx0
   exact ⟨rfl, ⟨rows, ap, gp, cp, B42.keep omw43 (hmkE.notBlk B42), (hplE).bent omw43 (fun i hi => (hmkE.bent i hi).2), fun h => (by cases h), fun p h => by
     injection h with h; subst h; rw [List.append_nil]⟩, (RowC.bent (B := w0.heap.size) (by omega) _ _ _ _ (hrowE) omw43 hmkE.bent), E46⟩
  have B47 : Blk w28 sb 122 [.slice ap rows.length cp, .int .i64 (((max up rows.length) : Nat) : Int)] := by
    have e : ([.slice ap rows.length cp, .int .i64 (max (up : Int) (rows.length : Int))] : List Value) = [.slice ap rows.length cp, .int .i64 (((max up rows.length) : Nat) : Int)] := (by rw [show (((max up rows.length) : Nat) : Int) = max (up : Int) (rows.length : Int) by omega])
    rw [← e]; exact B30
  have hx0 : 0 < xs.length := by omega
  obtain ⟨x0, xs0, hxe⟩ : ∃ a b, xs = a :: b := List.exists_cons_of_length_pos hx0
  have hxl : xs.length = xs0.length + 1 := by rw [hxe]; rfl
  have hd1 : xs.drop 1 = xs0 := by rw [hxe]; rfl
  have hasg : ∀ ms k u, asgP r xs ms k u = tryF (fun t u => asgP r xs0 t.ms (k + 1) u) (teamsP r (nth xs 0) (nth xs 0).h.toNat 0 [] 0 ms) (max u k) := fun ms k u => by rw [hxe]; rfl
  refine c_skip (hK32 _ _ (c_seq fun K48 hK48 => (c_seq fun K49 hK49 => (c_drawnM follows (fun _ => False) (.look 0 (.look 1 (.look 2 (.look 3 (.look 4 (.act 5 .done .stop)))))) (by kernel_rfl) fun w50 u51 => ?_))))
  have zu51 := u51.size
  have B53 := ((((((B4.kx u10).kx u15).kx u20).kx u24).keep u29 (by omega)).kx u51)
  refine y_load isAgg117 rfl rfl rfl (B53.get rfl) (fun h => h) ?_
  have B54 := (B34.kx u51)
  refine y_load isAgg55 rfl rfl rfl (B54.get rfl) (fun h => h) ?_
  have D55 := (((((((hp.legs.kE u5).kE u10).kE u15).kE u20).kE u24).keep u29 (fun h9 => by show ¬ (bx = sb); have h8 := (hp.hbx h9).1; have h7 := hp.legs.lt h9; first | omega | exact fun e => h8 (.inr e) | exact hnx h9 | exact hxg h9)).kE u51)
  have i56 : 0 < xs.length := (by omega)
  refine y_index (j := 0) underlying55 sizeOf68 rfl rfl rfl rfl (D55.addr (by omega)) rfl i56 ?_
  have D57 := (((((((hp.legs.kE u5).kE u10).kE u15).kE u20).kE u24).keep u29 (fun h9 => by show ¬ (bx = sb); have h8 := (hp.hbx h9).1; have h7 := hp.legs.lt h9; first | omega | exact fun e => h8 (.inr e) | exact hnx h9 | exact hxg h9)).kE u51)
  refine y_loadN (vs := [.int .i64 ((nth xs 0).r), .int .i64 ((nth xs 0).t.bl), .int .i64 ((nth xs 0).t.bh), .int .i64 ((nth xs 0).t.el), .int .i64 ((nth xs 0).t.eh), .int .i64 ((nth xs 0).h), .int .i64 ((nth xs 0).p)]) isAgg68 sizeOf68 rfl rfl rfl ((D57.at_ 0 (by omega)).sub 0 7) rfl (fun h => h) (y_build (ps := []) (v := .agg #[.slice none 0 0, .int .i64 0]) rfl rfl ⟨rfl, rfl⟩ (fun w => by kernel_rfl) (s_do (t_call own90 rfl rfl rfl rfl (teams_c c (nth xs 0) 0 [] none 0 0 _) (fun v58 w59 r61 => ?_))))
  obtain ⟨⟨bT7, bT5, bT6, bT4, rfl, hT7, hT5, hT6, hT4, gT7, gT5, gT6, gT4⟩, u60⟩ := r61
  have zu60 := u60.size
  have E62 := (E31.nx u51).nx u60
  refine s_next ((Upd.refl _ _).nx u60) (s_nil (hK49 _ _ (c_block ?_)))
  have hP0 : Upd (TP (FA mb pb sb) pb w0) w0 w59 := E62
  have uS : Upd (· = sb) w0 w59 := (((((((((Upd.refl (· = sb) _).nx u5).nx u10).nx u15).nx u20).nx u24).next u29 (fun i hi h => h)).nx u51).nx u60)
  have B63 := ((((B19.kx u24).keep u29 (by omega)).kx u51).kx u60)
  have B64 := ((B47.kx u51).kx u60)
  have hrowR : RowC (FA mb pb sb) pb c r am mb cm n ms w59 := hp.row.tpS hp.hsm hp.hcs (.inr rfl) hsb (uS.mono fun i e => .inl e)
  have hplR : PlanM (FA mb pb sb) pb w59 ap gp cp rows := hp.plan.upd uS (fun hb e => hp.plan.nf hb (.inr e)) (fun q hq hb e => hp.plan.mf q hq hb (.inr e))
  have l6 := B63.lt
  have hx30 := okLeg_ok (hp.hxs _ (nth_mem hx0))
  have hbxR : pb ≤ bx → ∃ t cs, t ≠ 60 ∧ Blk w59 bx t cs := fun hb => by
    obtain ⟨t, cs, ht, hB⟩ := (hp.hbx hx0).2 hb
    exact ⟨t, cs, ht, hB.keep uS (fun e => (hp.hbx hx0).1 (.inr e))⟩
  have hnx : 0 < xs.length → ¬ TP (FX (FX (FA mb pb sb) bk17) (w59.heap.size + 1)) pb w59 bx := fun h => by
    have h6 := hp.legs.lt h
    rintro (q | ⟨q, cs, hb⟩)
    · exact q.elim (fun q => q.elim (hp.hbx h).1 (fun e => by omega)) (fun e => by omega)
    · obtain ⟨t, cs', ht, hb'⟩ := hbxR q
      exact TP.not (F := F0) (fun h => h) hb' ht (.inr ⟨q, cs, hb⟩)
  have B66 := (((((((B4.kx u10).kx u15).kx u20).kx u24).keep u29 (by omega)).kx u51).kx u60)
  have nTb65 : ¬ TP (FX (FX (FA mb pb sb) bk17) (w59.heap.size + 1)) pb w59 bk2 := TP.not (fun h => h.elim (fun h => h.elim (fun h => by have := (hFAl _ h).2; omega) (fun e => by omega)) (fun e => by omega)) B66 (by decide)
  have B68 := ((((((B9.kx u15).kx u20).kx u24).keep u29 (by omega)).kx u51).kx u60)
  have nTb67 : ¬ TP (FX (FX (FA mb pb sb) bk17) (w59.heap.size + 1)) pb w59 bk7 := TP.not (fun h => h.elim (fun h => h.elim (fun h => by have := (hFAl _ h).2; omega) (fun e => by omega)) (fun e => by omega)) B68 (by decide)
  have B70 := ((B34.kx u51).kx u60)
  have nTb69 : ¬ TP (FX (FX (FA mb pb sb) bk17) (w59.heap.size + 1)) pb w59 bk12 := TP.not (fun h => h.elim (fun h => h.elim (fun h => by have := (hFAl _ h).2; omega) (fun e => by omega)) (fun e => by omega)) B70 (by decide)
  have hFi : ∀ i, (FX (FX (FA mb pb sb) bk17) (w59.heap.size + 1)) i → pb ≤ i ∧ i < w59.heap.size + 2 := fun i h => h.elim (fun h => h.elim (fun h => ⟨(hFAl _ h).1, by have := (hFAl _ h).2; omega⟩) (fun e => ⟨by omega, by omega⟩)) (fun e => ⟨by omega, by omega⟩)
  have hFm : pb ≤ mb → (FX (FX (FA mb pb sb) bk17) (w59.heap.size + 1)) mb := fun h => .inl (.inl (.inl ⟨rfl, h⟩))
  have h6m : pb ≤ mb → mb ≠ bk17 := hrowR.row.acc.neBlk B63 (by decide)
  have hFB : ∀ i, (FX (FA mb pb sb) bk17) i → i < w59.heap.size := fun i h => h.elim (fun h => by have := (hFAl _ h).2; omega) (fun e => by omega)
  have lT7 := hT7.lt
  have lT5 := hT5.lt
  have lT4 := hT4.lt
  refine WC.weak [(3, .pointer (some ⟨bk2, 0, none⟩)), (4, .pointer (some ⟨bk7, 0, none⟩)), (5, .pointer (some ⟨bk12, 0, none⟩)), (6, .pointer (some ⟨bk17, 0, none⟩)), (29, .func (.func 111) #[] #[.pointer (some ⟨bT7, 0, none⟩), .pointer (some ⟨bT5, 0, none⟩), .pointer (some ⟨bT6, 0, none⟩), .pointer (some ⟨bT4, 0, none⟩)])] ⟨rfl, rfl, rfl, rfl, rfl, trivial⟩ (c_rangeL (γ := HT) (δ := Nat) (lb := [.pointer (some ⟨bT7, 0, none⟩), .pointer (some ⟨bT5, 0, none⟩), .pointer (some ⟨bT6, 0, none⟩), .pointer (some ⟨bT4, 0, none⟩)]) (enc := encHT) own111 rfl rfl (YT (FX (FX (FA mb pb sb) bk17) (w59.heap.size + 1)) pb c r am mb cm n (90 - 3 * xs0.length) w59.heap.size (AC (FX (FX (FA mb pb sb) bk17) (w59.heap.size + 1)) (fun t u => asgP r xs0 t.ms (rows.length + 1) u) (max up rows.length) mb pb sb bk17 rows w59)) (ZT (FX (FX (FA mb pb sb) bk17) (w59.heap.size + 1)) pb c r am mb cm n (AC (FX (FX (FA mb pb sb) bk17) (w59.heap.size + 1)) (fun t u => asgP r xs0 t.ms (rows.length + 1) u) (max up rows.length) mb pb sb bk17 rows w59)) (FT (FX (FX (FA mb pb sb) bk17) (w59.heap.size + 1)) pb c r am mb cm n (AF (FX (FX (FA mb pb sb) bk17) (w59.heap.size + 1)) (fun t u => asgP r xs0 t.ms (rows.length + 1) u) (max up rows.length) mb pb sb bk17 rows w59) id) (EX (FX (FX (FA mb pb sb) bk17) (w59.heap.size + 1)) (FX (FX (FA mb pb sb) bk17) (w59.heap.size + 1)) pb c r am mb cm n w59 (AC (FX (FX (FA mb pb sb) bk17) (w59.heap.size + 1)) (fun t u => asgP r xs0 t.ms (rows.length + 1) u) (max up rows.length) mb pb sb bk17 rows w59 (teamsP r (nth xs 0) (nth xs 0).h.toNat 0 [] 0 (ms.map HM.mb))) ms) (EX (FX (FX (FA mb pb sb) bk17) (w59.heap.size + 1)) F0 pb c r am mb cm n w59 (EndT (teamsP r (nth xs 0) (nth xs 0).h.toNat 0 [] 0 (ms.map HM.mb)) (AF (FX (FX (FA mb pb sb) bk17) (w59.heap.size + 1)) (fun t u => asgP r xs0 t.ms (rows.length + 1) u) (max up rows.length) mb pb sb bk17 rows w59)) (id ms)) (ZT.turned ((AC.bent (Nat.le_succ _)).turned (Nat.le_refl _)) (.inr rfl)) (FT.turned ((AF.bent (Nat.le_succ _)).turned (Nat.le_refl _)) (.inr rfl)) (EX.turned (fun _ => ((AC.bent (Nat.le_succ _)).turned (Nat.le_refl _)) _) (.inr rfl)) (EX.turned (EndT.turned ((AF.bent (Nat.le_succ _)).turned (Nat.le_refl _))) (.inr rfl)) ?_ (fun x d => [(3, .pointer (some ⟨bk2, 0, none⟩)), (4, .pointer (some ⟨bk7, 0, none⟩)), (5, .pointer (some ⟨bk12, 0, none⟩)), (6, .pointer (some ⟨bk17, 0, none⟩)), (7, .pointer (some ⟨d, 0, none⟩))]) (fun x d W => (Blk W d 166 [.slice x.ao x.nums.length x.cap, .int .i64 x.pl] ∧ w59.heap.size + 1 < d) ∧ YT (FX (FX (FA mb pb sb) bk17) (w59.heap.size + 1)) pb c r am mb cm n (90 - 3 * xs0.length) w59.heap.size (AC (FX (FX (FA mb pb sb) bk17) (w59.heap.size + 1)) (fun t u => asgP r xs0 t.ms (rows.length + 1) u) (max up rows.length) mb pb sb bk17 rows w59) x W) (fun d x W W' h hl u => ⟨⟨h.1.1.keep u (h.1.1.notLoop hl), h.1.2⟩, YT.turned ((AC.bent (Nat.le_succ _)).turned (Nat.le_refl _)) _ _ _ h.2 hl u⟩) ?_ ?_ ?_ ?_)
  ·
   intro l_ D_ R_ Rf_ W hD_ hl_ hsz hE1 hH_ hR_
   subst hD_ hl_
   refine (teams1_c r (nth xs 0) pb c am mb cm n (90 - 3 * xs0.length) (nth xs 0).h.toNat (FX (FX (FA mb pb sb) bk17) (w59.heap.size + 1)) _ w59.heap.size (AC (FX (FX (FA mb pb sb) bk17) (w59.heap.size + 1)) (fun t u => asgP r xs0 t.ms (rows.length + 1) u) (max up rows.length) mb pb sb bk17 rows w59) (AF (FX (FX (FA mb pb sb) bk17) (w59.heap.size + 1)) (fun t u => asgP r xs0 t.ms (rows.length + 1) u) (max up rows.length) mb pb sb bk17 rows w59) R_ Rf_ id bT7 bT5 bT6 bT4 0 [] none 0 0 0 ms W ⟨hp.hr, hp.hxs _ (nth_mem hx0), AC.mb hp.hsm h6m hFm, AF.mb hp.hsm h6m hFm, AC.bent (by omega), AF.bent (by omega), hH_, hT7.kx hE1, hT5.kx hE1, hT6.kx hE1, hT4.kx hE1, ?_, Acc.nil _ _ _ _ _ (by omega) (by omega), fun h => by omega, fun i h => ⟨(hFi i h).1, by have := (hFi i h).2; omega⟩, (fun h => h.elim (fun h => h.elim (fun h => by have := (hFAl _ h).2; omega) (fun e => by omega)) (fun e => by omega)), (fun h => h.elim (fun h => h.elim (fun h => by have := (hFAl _ h).2; omega) (fun e => by omega)) (fun e => by omega)), (fun h => h.elim (fun h => h.elim (fun h => by have := (hFAl _ h).2; omega) (fun e => by omega)) (fun e => by omega)), ?_, .inr rfl, hFm, rfl, by omega, ⟨hpb.1, by omega⟩, ?_, ?_, by omega, hn6, ⟨by decide, by decide⟩, ⟨⟨_, ap, gp, cp, rfl, B64.kx hE1, hplR.ext hE1⟩, B63.kx hE1, hE1.to⟩, hR_, fun _ => rfl, fun _ _ _ _ => rfl⟩).mono fun _ w9 h9 => ?_
   · exact (hrowR.mono fun m hm hb hg => hg.elim (fun hg => hg.elim id (fun e => absurd e ((hrowR.row.mem m hm).ht.neBlk B63 (by decide) hb))) (fun e => by have := (hrowR.row.mem m hm).ht.lt; omega)).ext hE1
   · exact fun h => h.elim (fun h => h.elim (fun h => h.elim (fun h => hp.hcm (h.1 ▸ h.2) h.1) hp.hcs) (fun e => by omega)) (fun e => by omega)
   · show ((0 : Nat) : Int) + _ = _; omega
   · exact fun m hm => by have := hp.hB m hm; omega
   have h8 := (hE1.to (S := TP (FX (FX (FA mb pb sb) bk17) (w59.heap.size + 1)) pb w59)).next h9.2 (fun i hi h => TP.backE hE1 hi h)
   exact h9.1.elim (fun q => .inl ⟨⟨q.1, q.2.2, h8⟩, q.2.1⟩) (fun q => .inr ⟨⟨q.1, q.2.2, h8⟩, q.2.1⟩)
  ·
   intro lq x W K71 hI hK71
   change WC _ _ _ _ _ _ [(30, .agg #[.slice x.ao x.nums.length x.cap, .int .i64 x.pl]), (3, .pointer (some ⟨bk2, 0, none⟩)), (4, .pointer (some ⟨bk7, 0, none⟩)), (5, .pointer (some ⟨bk12, 0, none⟩)), (6, .pointer (some ⟨bk17, 0, none⟩)), (29, .func (.func 111) #[] #[.pointer (some ⟨bT7, 0, none⟩), .pointer (some ⟨bT5, 0, none⟩), .pointer (some ⟨bT6, 0, none⟩), .pointer (some ⟨bT4, 0, none⟩)])] _
   have E000 := Upd.refl (fun _ => False) W
   refine c_region (t_alloc (cs := [.slice none 0 0, .int .i64 0]) zeroValue166 rfl rfl rfl (fun bk72 w73 ebk72 sbk72 B74 u75 => ?_))
   have zu75 := u75.size
   refine t_st (vs := [.slice x.ao x.nums.length x.cap, .int .i64 x.pl]) sizeOf166 rfl rfl rfl B74 rfl rfl rfl rfl (fun w77 sw77 B79 u78 => ?_)
   have zu78 := u78.size
   have E80 := (E000.nx u75).next u78 (fun i hi h => by omega)
   have B79 : Blk w77 bk72 166 [.slice x.ao x.nums.length x.cap, .int .i64 x.pl] := B79
   refine t_nil' ?_
   exact hK71 bk72 _ _ ⟨rfl, rfl, rfl, rfl, rfl, trivial⟩ E80 ⟨⟨B79, by have := hI.hD; omega⟩, ⟨AC.mb hp.hsm h6m hFm _ _ _ hI.hc (Ext.to E80), hI.row.ext E80, hI.num.keep E80 (fun _ h => h), hI.nf, hI.len, hI.n3, by have := hI.hD; have := (E80).size; omega, hI.upd.nx E80⟩⟩
  ·
   intro lq x d w81 hY
   obtain ⟨⟨hbd, hdg⟩, hY⟩ := hY
   obtain ⟨u9, ap9, gp9, cp9, htr, hsb9, hpl9⟩ := hY.hc.ex
   have huR := hY.hc.hu
   have hdl := hbd.lt
   have hgl9 := hpl9.acc.lt
   have zhuR := huR.size
   have lt_gp9 := hpl9.acc.lt
   have hgsb : pb ≤ gp9 → gp9 ≠ sb := fun h e => hpl9.nf h (.inr e)
   have hxg : 0 < xs.length → ¬ (bx = gp9 ∧ pb ≤ bx) := fun h e => by
     obtain ⟨t, cs, ht, hB⟩ := hbxR e.2
     obtain ⟨cs9, h75⟩ := hpl9.acc.blkT (e.1 ▸ e.2)
     exact absurd e.1 ((hB.keep hY.hc.hu (hnx hx0)).neT h75 ht)
   have hFBs : (FX (FA mb pb sb) bk17) sb := .inl (.inr rfl)
   have hFB6 : (FX (FA mb pb sb) bk17) bk17 := .inr rfl
   have B84 := (B66.keep huR (show ¬ (TP (FX (FX (FA mb pb sb) bk17) (w59.heap.size + 1)) pb w59 bk2) by first | omega | assumption))
   have hgp83 : pb ≤ gp9 → gp9 ≠ bk2 := hpl9.acc.neBlk B84 (by decide)
   have B86 := (B68.keep huR (show ¬ (TP (FX (FX (FA mb pb sb) bk17) (w59.heap.size + 1)) pb w59 bk7) by first | omega | assumption))
   have hgp85 : pb ≤ gp9 → gp9 ≠ bk7 := hpl9.acc.neBlk B86 (by decide)
   have B88 := (B70.keep huR (show ¬ (TP (FX (FX (FA mb pb sb) bk17) (w59.heap.size + 1)) pb w59 bk12) by first | omega | assumption))
   have hgp87 : pb ≤ gp9 → gp9 ≠ bk12 := hpl9.acc.neBlk B88 (by decide)
   have hgp89 : pb ≤ gp9 → gp9 ≠ bk17 := hpl9.acc.neBlk hY.hc.b6 (by decide)
   have hgp90 : pb ≤ gp9 → gp9 ≠ d := hpl9.acc.neBlk hbd (by decide)
   change WC _ _ _ _ _ _ [(3, .pointer (some ⟨bk2, 0, none⟩)), (4, .pointer (some ⟨bk7, 0, none⟩)), (5, .pointer (some ⟨bk12, 0, none⟩)), (6, .pointer (some ⟨bk17, 0, none⟩)), (7, .pointer (some ⟨d, 0, none⟩))] _
   have hcellsR := (TP.cellsB (F := (FX (FA mb pb sb) bk17)) (pb := pb) (B := w59.heap.size) (w := w81) hFB)
   refine c_block (c_seq fun K91 hK91 => (c_drawnM follows (fun i => (i = gp9 ∧ pb ≤ i) ∨ i = sb) (.look 0 (.look 1 (.look 2 (.look 3 (.look 5 (.look 6 (.act 4 (.act 7 (.act 8 (.look 9 (.look 10 (.act 11 .done .stop))) .stop) .stop) (.act 7 (.act 4 (.act 8 (.look 9 (.look 10 (.act 11 .done .stop))) .stop) .stop) .stop)))))))) (by kernel_rfl) fun w92 u93 => ?_))
   have zu93 := u93.size
   have B95 := (B86.kx u93)
   refine y_load isAgg120 rfl rfl rfl (B95.get rfl) (by show ¬ ((bk7 = gp9 ∧ pb ≤ bk7) ∨ bk7 = sb); first | omega | assumption) (y_load isAgg120 rfl rfl rfl (B95.get rfl) (by show ¬ ((bk7 = gp9 ∧ pb ≤ bk7) ∨ bk7 = sb); first | omega | assumption) (y_nilchk rfl rfl rfl (y_field underlying122 rfl sizeOf56 (0) rfl rfl rfl rfl (y_field underlying166 rfl sizeOf60 (0) rfl rfl rfl rfl ?_))))
   have B96 := (hbd.kx u93)
   refine y_load isAgg60 rfl rfl rfl (B96.get rfl) (by show ¬ ((d = gp9 ∧ pb ≤ d) ∨ d = sb); first | omega | assumption) (s_or ?_ ?_)
   ·
    refine s_do ?_
    have B97 := (hsb9.kx u93)
    refine t_load isAgg56 rfl rfl rfl (B97.get rfl) (s_next (Upd.refl _ _) (s_do (t_bslice (ps := [(0, .slice x.ao x.nums.length x.cap)]) (cs := [.slice x.ao x.nums.length x.cap]) (e := 60) rfl rfl ⟨rfl, rfl⟩ (fun w => by kernel_rfl) (fun bk98 w99 ebk98 sbk98 B100 u101 => ?_))))
    have zu101 := u101.size
    refine s_next ((Upd.refl _ _).nx u101) (s_do ?_)
    have D103 := ((hpl9.acc.kE u93).kE u101)
    refine t_append (z := .slice none 0 0) (bytes := 24) (k := 1) (base := pb) (HT.hr x) underlying56 (by kernel_rfl) rfl (by decide) (fun _ => rfl) (by intro x; simp [encHR, Value.oneCell']) rfl rfl rfl rfl D103 B100 (by omega) (by omega) (by decide) (fun ao104 gb105 cp106 w107 A108 u109 gegb105 lngb105 => ?_)
    have zu109 := u109.size
    have lt_gb105 := A108.lt
    refine s_next ((Upd.refl _ _).next u109 (fun i hi (h : (i = gp9 ∧ pb ≤ i)) => show w92.heap.size ≤ i ∨ ((i = gp9 ∧ pb ≤ i) ∨ i = sb) by first | omega | exact .inr h)) (y_nilchk rfl rfl rfl (y_field underlying122 rfl sizeOf56 (0) rfl rfl rfl rfl (s_do ?_)))
    have B111 := ((B97.kx u101).keep u109 (by omega))
    refine t_st (vs := [.slice ao104 (((rows ++ [(HT.hr x)])).length) cp106]) sizeOf56 rfl rfl rfl B111 rfl rfl rfl rfl (fun w112 sw112 B114 u113 => ?_)
    have zu113 := u113.size
    have B114 : Blk w112 sb 122 [.slice ao104 (((rows ++ [(HT.hr x)])).length) cp106, .int .i64 (u9 : Int)] := B114
    refine s_next ((Upd.refl _ _).next u113 (fun i hi (h : i = sb) => show w92.heap.size ≤ i ∨ ((i = gp9 ∧ pb ≤ i) ∨ i = sb) by first | omega | exact .inr h)) (s_nil (hK91 _ _ (c_seq fun K116 hK116 => (c_seq fun K117 hK117 => ?_))))
    have B119 := ((((B84.kx u93).kx u101).keep u109 (by omega)).keep u113 (by omega))
    have nTb118 : ¬ TQ (FA mb pb sb) pb w112 bk2 := TQ.not (Upd.refl _ _) (fun h => by have := (hFAl _ h).2; omega) (by omega) B119 (by decide)
    have B121 := ((((B86.kx u93).kx u101).keep u109 (by omega)).keep u113 (by omega))
    have nTb120 : ¬ TQ (FA mb pb sb) pb w112 bk7 := TQ.not (Upd.refl _ _) (fun h => by have := (hFAl _ h).2; omega) (by omega) B121 (by decide)
    have B123 := ((((B88.kx u93).kx u101).keep u109 (by omega)).keep u113 (by omega))
    have nTb122 : ¬ TQ (FA mb pb sb) pb w112 bk12 := TQ.not (Upd.refl _ _) (fun h => by have := (hFAl _ h).2; omega) (by omega) B123 (by decide)
    have B125 := ((((hY.hc.b6.kx u93).kx u101).keep u109 (by omega)).keep u113 (by omega))
    have nTb124 : ¬ TQ (FA mb pb sb) pb w112 bk17 := TQ.not (Upd.refl _ _) (fun h => by have := (hFAl _ h).2; omega) (by omega) B125 (by decide)
    refine c_drawnM follows (fun i => TQ (FA mb pb sb) pb w112 i) (.look 0 (.look 1 (.look 2 (.look 3 (.act 4 .done .stop))))) (by kernel_rfl) fun w126 u127 => ?_
    have zu127 := u127.size
    have B129 := (B119.kx u127)
    refine y_load isAgg117 rfl rfl rfl (B129.get rfl) (by show ¬ (TQ (FA mb pb sb) pb w112 bk2); first | omega | assumption) ?_
    have B130 := (B121.kx u127)
    refine y_load isAgg120 rfl rfl rfl (B130.get rfl) (by show ¬ (TQ (FA mb pb sb) pb w112 bk7); first | omega | assumption) ?_
    have B131 := (B123.kx u127)
    refine y_load isAgg55 rfl rfl rfl (B131.get rfl) (by show ¬ (TQ (FA mb pb sb) pb w112 bk12); first | omega | assumption) (y_sliceFrom (1) underlying55 sizeOf68 rfl rfl rfl rfl rfl (by omega) hp.hcx (y_same 45 (v := .slice (subAddr ax cx 1 7) xs0.length (cx - 1)) rfl (by rw [hxl]; rfl) (s_do ?_)))
    have uQ : Upd (TP (fun i => i = sb) pb w81) w81 w126 := ((((((Upd.refl (TP (fun i => i = sb) pb w81) _).nx u93).nx u101).next u109 (fun i hi h => .inr ⟨h.2, h.1 ▸ hpl9.acc.blkT (h.1 ▸ h.2)⟩)).next u113 (fun i hi h => .inl h)).nx u127)
    have uPB : Upd (TP (FX (FA mb pb sb) bk17) pb w81) w81 w112 := ((((((Upd.refl (TP (fun i => i = sb) pb w81) _).nx u93).nx u101).next u109 (fun i hi h => .inr ⟨h.2, h.1 ▸ hpl9.acc.blkT (h.1 ▸ h.2)⟩)).next u113 (fun i hi h => .inl h))).mono (fun i h => h.elim (fun h => .inl (.inl (.inr h))) .inr)
    have B132 := (B114.kx u127)
    have D133 := ((A108.keep u113 (fun hb => show ¬ (gb105 = sb) by first | omega | assumption)).kE u127)
    have D134 := (((((((D55.kE u60).keep huR (fun h9 => by show ¬ (TP (FX (FX (FA mb pb sb) bk17) (w59.heap.size + 1)) pb w59 bx); have h8 := (hp.hbx h9).1; have h7 := hp.legs.lt h9; first | omega | exact fun e => h8 (.inr e) | exact hnx h9 | exact hxg h9)).kE u93).kE u101).keep u109 (fun h9 => by show ¬ ((bx = gp9 ∧ pb ≤ bx)); have h8 := (hp.hbx h9).1; have h7 := hp.legs.lt h9; first | omega | exact fun e => h8 (.inr e) | exact hnx h9 | exact hxg h9)).keep u113 (fun h9 => by show ¬ (bx = sb); have h8 := (hp.hbx h9).1; have h7 := hp.legs.lt h9; first | omega | exact fun e => h8 (.inr e) | exact hnx h9 | exact hxg h9)).kE u127)
    have hrowQ : RowC (FA mb pb sb) pb c r am mb cm n x.hm w126 := (hY.row.mono fun m hm hb hf => .inl (.inl hf)).tpS hp.hsm hp.hcs (.inr rfl) hsb uQ
    have hplQ : PlanM (FA mb pb sb) pb w126 ao104 gb105 cp106 (rows ++ [HT.hr x]) := hpl9.push (.inr rfl) uQ D133 (fun hb hf => by
      rcases (show gb105 = gp9 ∨ w0.heap.size ≤ gb105 by omega) with e | e
      · exact hpl9.nf (e ▸ hb) (e ▸ hf)
      · have := (hFAl _ hf).2; omega) hY.num (fun hb hf => hY.nf hb (.inl (.inl hf)))
    have hx1 : Sl encLeg 7 w126 (subAddr ax cx 1 7) bx (ox + 1 * 7) xs0 := by
      have h := (D134).sub cx 1 xs0.length hp.hcx
      rwa [hd1, List.take_length] at h
    have hbx1 : 0 < xs0.length → ¬ (FA mb pb sb) bx ∧ (pb ≤ bx → ∃ t cs, t ≠ 60 ∧ Blk w126 bx t cs) := fun _ => ⟨(hp.hbx hx0).1, fun hb => by
      obtain ⟨t, cs, ht, hB⟩ := hbxR hb
      have h8 := hB.keep hY.hc.hu (hnx hx0)
      exact ⟨t, cs, ht, h8.keep uQ (TP.not (fun e => (hp.hbx hx0).1 (.inr e)) h8 ht)⟩⟩
    refine t_call own58 rfl rfl rfl rfl ((ih x0 xs0 hxe r pb c am mb cm n sb _ bx _ _ x.hm _ ao104 gb105 cp106 u9 _ ⟨hp.hr, fun y hy => hp.hxs y (by rw [hxe]; exact List.mem_cons_of_mem _ hy), fun m hm => by have := hY.len m hm; have := hp.hB; omega, hx1, by have := hp.hcx; omega, hbx1, B132, hplQ, hrowQ, hp.hcm, hp.hcs, hsb, hp.hsm, hn6, by rw [List.length_append, List.length_singleton]; omega, ⟨hpb.1, by omega⟩⟩).mono fun _ _ h => AsgR.t h u127) (fun v135 w136 r138 => ?_)
    obtain ⟨rfl, ⟨rows2, ap2, gp2, cp2, hsb2, hpl2, hno2, hso2⟩, hrow2, u137⟩ := r138
    have zu137 := u137.size
    have hA9 : (asgP r xs0 (x.hm.map HM.mb) (rows ++ [HT.hr x]).length u9) = asgP r xs0 (x.hm.map HM.mb) (rows.length + 1) u9 := by rw [List.length_append]; rfl
    have B140 := ((B125.kx u127).keep u137 (show ¬ (TQ (FA mb pb sb) pb w112 bk17) by first | omega | assumption))
    have h6A := B140
    refine s_next ((Upd.refl _ _).next u137 (fun i hi (h : TQ (FA mb pb sb) pb w112 i) => show w126.heap.size ≤ i ∨ (TQ (FA mb pb sb) pb w112 i) by first | omega | exact .inr h)) (s_nil (hK117 _ _ (c_cond rfl (fun g46 => ?_) (fun g46 => ?_))))
    ·
     obtain ⟨q9, hq9⟩ := Option.isSome_iff_exists.1 g46
     refine c_seq fun K141 hK141 => (c_region (t_st (vs := [.bool true]) sizeOf4 rfl rfl rfl B140 rfl rfl rfl rfl (fun w142 sw142 B144 u143 => ?_)))
     have zu143 := u143.size
     have B144 : Blk w142 bk17 4 [.bool true] := B144
     refine t_nil' (hK141 _ _ (c_ret ?_))
     have hUr := ((((((((Upd.refl (fun i => TP (FX (FA mb pb sb) bk17) pb w81 i) w81).nx u93).nx u101).next u109 (fun i hi (h : (i = gp9 ∧ pb ≤ i)) => show TP (FX (FA mb pb sb) bk17) pb w81 i by first | omega | assumption | exact TP.back (by assumption) hi h | exact TP.back (by assumption) hi (TP.unfx h (by omega)) | exact Or.inl (by rw [h]; assumption) | exact h.elim (fun h => TP.back uPB hi h.fx) (fun h => by omega) | exact Or.inr ⟨h.2, h.1 ▸ hpl9.acc.blkT (h.1 ▸ h.2)⟩)).next u113 (fun i hi (h : i = sb) => show TP (FX (FA mb pb sb) bk17) pb w81 i by first | omega | assumption | exact TP.back (by assumption) hi h | exact TP.back (by assumption) hi (TP.unfx h (by omega)) | exact Or.inl (by rw [h]; assumption) | exact h.elim (fun h => TP.back uPB hi h.fx) (fun h => by omega) | exact Or.inr ⟨h.2, h.1 ▸ hpl9.acc.blkT (h.1 ▸ h.2)⟩)).nx u127).next u137 (fun i hi (h : TQ (FA mb pb sb) pb w112 i) => show TP (FX (FA mb pb sb) bk17) pb w81 i by first | omega | assumption | exact TP.back (by assumption) hi h | exact TP.back (by assumption) hi (TP.unfx h (by omega)) | exact Or.inl (by rw [h]; assumption) | exact h.elim (fun h => TP.back uPB hi h.fx) (fun h => by omega) | exact Or.inr ⟨h.2, h.1 ▸ hpl9.acc.blkT (h.1 ▸ h.2)⟩)).next u143 (fun i hi (h : i = bk17) => show TP (FX (FA mb pb sb) bk17) pb w81 i by first | omega | assumption | exact TP.back (by assumption) hi h | exact TP.back (by assumption) hi (TP.unfx h (by omega)) | exact Or.inl (by rw [h]; assumption) | exact h.elim (fun h => TP.back uPB hi h.fx) (fun h => by omega) | exact Or.inr ⟨h.2, h.1 ▸ hpl9.acc.blkT (h.1 ▸ h.2)⟩))
     have uW : Upd (TP (FX (FX (FA mb pb sb) bk17) (w59.heap.size + 1)) pb w81) _ _ := hUr.mono (fun i h => h.fx)
     have B146 := (hsb2.keep u143 (by omega))
     have uT : Upd (· = bk17) w136 w142 := ((Upd.refl (· = bk17) _).next u143 (fun i hi h => h))
     exact fun a ha => ⟨KeepsFrom.of_updB hUr hcellsR, (⟨⟨⟨_, _, q9, _, _, _, _, htr, (by show asgP r xs0 (x.hm.map HM.mb) (rows.length + 1) u9 = _; rw [← hA9]; exact Prod.ext hq9 rfl), B146, hpl2.up6 h6A uT, by rw [hso2 q9 hq9, List.map_append, List.append_assoc]; rfl⟩, B144, hY.hc.hu.next uW (fun i hi h => TP.back hY.hc.hu hi h)⟩, (hrow2.up6 h6A (by omega) uT).f0, (hY.upd.mono fun i e => .inl (.inr e)).next uW (fun i hi h => TP.back (hY.upd.mono fun i e => .inl (.inr e)) hi h)⟩ : FT (FX (FX (FA mb pb sb) bk17) (w59.heap.size + 1)) pb c r am mb cm n (AF (FX (FX (FA mb pb sb) bk17) (w59.heap.size + 1)) (fun t u => asgP r xs0 t.ms (rows.length + 1) u) (max up rows.length) mb pb sb bk17 rows w59) id x _)⟩
    have hq9 := Option.not_isSome_iff_eq_none.1 (fun h => by rw [h] at g46; cases g46)
    have hr2 := hno2 hq9
    rw [hr2] at hsb2 hpl2
    have lt_gp2 := hpl2.acc.lt
    refine c_skip (hK116 _ _ (c_drawnM follows (fun i => i = sb) (.look 0 (.look 1 (.look 2 (.look 3 (.look 5 (.look 6 (.look 7 (.act 4 (.act 8 (.look 9 (.look 10 (.look 11 (.look 12 (.look 13 (.act 14 .done .stop)))))) .stop) (.act 8 (.look 9 (.look 10 (.act 4 (.look 11 (.look 12 (.look 13 (.act 14 .done .stop)))) .stop))) .stop))))))))) (by kernel_rfl) fun w147 u148 => ?_))
    have zu148 := u148.size
    have B150 := (((B121.kx u127).keep u137 (show ¬ (TQ (FA mb pb sb) pb w112 bk7) by first | omega | assumption)).kx u148)
    refine y_load isAgg120 rfl rfl rfl (B150.get rfl) (by show ¬ (bk7 = sb); first | omega | assumption) (y_load isAgg120 rfl rfl rfl (B150.get rfl) (by show ¬ (bk7 = sb); first | omega | assumption) (y_nilchk rfl rfl rfl (y_field underlying122 rfl sizeOf56 (0) rfl rfl rfl rfl (y_load isAgg120 rfl rfl rfl (B150.get rfl) (by show ¬ (bk7 = sb); first | omega | assumption) (y_nilchk rfl rfl rfl (y_field underlying122 rfl sizeOf56 (0) rfl rfl rfl rfl (s_or ?_ ?_)))))))
    ·
     refine s_do ?_
     have B151 := (hsb2.kx u148)
     refine t_load isAgg56 rfl rfl rfl (B151.get rfl) (s_next (Upd.refl _ _) (s_do (t_load isAgg56 rfl rfl rfl (B151.get rfl) (s_next (Upd.refl _ _) (y_len underlying56 rfl rfl rfl rfl (y_ari rfl rfl rfl rfl rfl (by omega) (y_sliceTo (rows.length) underlying56 sizeOf60 rfl rfl rfl rfl (by rw [List.length_append, List.length_singleton]; omega) (by have := hpl2.acc.cap_le; rw [List.length_append, List.length_singleton] at this; omega) (y_same 58 (v := .slice ap2 rows.length cp2) rfl (by rw [hpl2.acc.sub0 (by simp)]) (y_nilchk rfl rfl rfl (y_field underlying122 rfl sizeOf56 (0) rfl rfl rfl rfl (s_do (t_st (vs := [.slice ap2 rows.length cp2]) sizeOf56 rfl rfl rfl B151 rfl rfl rfl rfl (fun w152 sw152 B154 u153 => ?_)))))))))))))
     have zu153 := u153.size
     have B154 : Blk w152 sb 122 [.slice ap2 rows.length cp2, .int .i64 ((asgP r xs0 (x.hm.map HM.mb) (rows ++ [HT.hr x]).length u9).2 : Int)] := B154
     refine s_next ((Upd.refl _ _).next u153 (fun i hi (h : i = sb) => show w147.heap.size ≤ i ∨ (i = sb) by first | omega | exact .inr h)) (s_nil ?_)
     have hUr := (((((((((Upd.refl (fun i => TP (FX (FA mb pb sb) bk17) pb w81 i) w81).nx u93).nx u101).next u109 (fun i hi (h : (i = gp9 ∧ pb ≤ i)) => show TP (FX (FA mb pb sb) bk17) pb w81 i by first | omega | assumption | exact TP.back (by assumption) hi h | exact TP.back (by assumption) hi (TP.unfx h (by omega)) | exact Or.inl (by rw [h]; assumption) | exact h.elim (fun h => TP.back uPB hi h.fx) (fun h => by omega) | exact Or.inr ⟨h.2, h.1 ▸ hpl9.acc.blkT (h.1 ▸ h.2)⟩)).next u113 (fun i hi (h : i = sb) => show TP (FX (FA mb pb sb) bk17) pb w81 i by first | omega | assumption | exact TP.back (by assumption) hi h | exact TP.back (by assumption) hi (TP.unfx h (by omega)) | exact Or.inl (by rw [h]; assumption) | exact h.elim (fun h => TP.back uPB hi h.fx) (fun h => by omega) | exact Or.inr ⟨h.2, h.1 ▸ hpl9.acc.blkT (h.1 ▸ h.2)⟩)).nx u127).next u137 (fun i hi (h : TQ (FA mb pb sb) pb w112 i) => show TP (FX (FA mb pb sb) bk17) pb w81 i by first | omega | assumption | exact TP.back (by assumption) hi h | exact TP.back (by assumption) hi (TP.unfx h (by omega)) | exact Or.inl (by rw [h]; assumption) | exact h.elim (fun h => TP.back uPB hi h.fx) (fun h => by omega) | exact Or.inr ⟨h.2, h.1 ▸ hpl9.acc.blkT (h.1 ▸ h.2)⟩)).nx u148).next u153 (fun i hi (h : i = sb) => show TP (FX (FA mb pb sb) bk17) pb w81 i by first | omega | assumption | exact TP.back (by assumption) hi h | exact TP.back (by assumption) hi (TP.unfx h (by omega)) | exact Or.inl (by rw [h]; assumption) | exact h.elim (fun h => TP.back uPB hi h.fx) (fun h => by omega) | exact Or.inr ⟨h.2, h.1 ▸ hpl9.acc.blkT (h.1 ▸ h.2)⟩))
     have uW : Upd (TP (FX (FX (FA mb pb sb) bk17) (w59.heap.size + 1)) pb w81) _ _ := hUr.mono (fun i h => h.fx)
     have B156 := ((B140.kx u148).keep u153 (by omega))
     have uT : Upd (· = sb) w136 w152 := (((Upd.refl (· = sb) _).nx u148).next u153 (fun i hi h => h))
     exact fun a ha => ⟨KeepsFrom.of_updB hUr hcellsR, (⟨⟨⟨_, _, _, _, tryF_step htr (by show asgP r xs0 (x.hm.map HM.mb) (rows.length + 1) u9 = _; rw [← hA9]; exact Prod.ext hq9 rfl), B154, hpl2.pop.upd uT (fun hb e => hpl2.nf hb (.inr e)) (fun q hq hb e => hpl2.pop.mf q hq hb (.inr e))⟩, B156, hY.hc.hu.next uW (fun i hi h => TP.back hY.hc.hu hi h)⟩, (hrow2.tpS hp.hsm hp.hcs (.inr rfl) hsb (uT.mono fun i e => .inl e)).toF hY.row.row, (hY.upd.mono fun i e => .inl (.inr e)).next uW (fun i hi h => TP.back (hY.upd.mono fun i e => .inl (.inr e)) hi h)⟩ : ZT (FX (FX (FA mb pb sb) bk17) (w59.heap.size + 1)) pb c r am mb cm n (AC (FX (FX (FA mb pb sb) bk17) (w59.heap.size + 1)) (fun t u => asgP r xs0 t.ms (rows.length + 1) u) (max up rows.length) mb pb sb bk17 rows w59) x _)⟩
    refine s_do ?_
    have B157 := (hsb2.kx u148)
    refine t_load isAgg56 rfl rfl rfl (B157.get rfl) (s_next (Upd.refl _ _) (y_len underlying56 rfl rfl rfl rfl (y_ari rfl rfl rfl rfl rfl (by omega) (s_do (t_load isAgg56 rfl rfl rfl (B157.get rfl) (s_next (Upd.refl _ _) (y_sliceTo (rows.length) underlying56 sizeOf60 rfl rfl rfl rfl (by rw [List.length_append, List.length_singleton]; omega) (by have := hpl2.acc.cap_le; rw [List.length_append, List.length_singleton] at this; omega) (y_same 58 (v := .slice ap2 rows.length cp2) rfl (by rw [hpl2.acc.sub0 (by simp)]) (y_nilchk rfl rfl rfl (y_field underlying122 rfl sizeOf56 (0) rfl rfl rfl rfl (s_do (t_st (vs := [.slice ap2 rows.length cp2]) sizeOf56 rfl rfl rfl B157 rfl rfl rfl rfl (fun w158 sw158 B160 u159 => ?_)))))))))))))
    have zu159 := u159.size
    have B160 : Blk w158 sb 122 [.slice ap2 rows.length cp2, .int .i64 ((asgP r xs0 (x.hm.map HM.mb) (rows ++ [HT.hr x]).length u9).2 : Int)] := B160
    refine s_next ((Upd.refl _ _).next u159 (fun i hi (h : i = sb) => show w147.heap.size ≤ i ∨ (i = sb) by first | omega | exact .inr h)) (s_nil ?_)
    have hUr := (((((((((Upd.refl (fun i => TP (FX (FA mb pb sb) bk17) pb w81 i) w81).nx u93).nx u101).next u109 (fun i hi (h : (i = gp9 ∧ pb ≤ i)) => show TP (FX (FA mb pb sb) bk17) pb w81 i by first | omega | assumption | exact TP.back (by assumption) hi h | exact TP.back (by assumption) hi (TP.unfx h (by omega)) | exact Or.inl (by rw [h]; assumption) | exact h.elim (fun h => TP.back uPB hi h.fx) (fun h => by omega) | exact Or.inr ⟨h.2, h.1 ▸ hpl9.acc.blkT (h.1 ▸ h.2)⟩)).next u113 (fun i hi (h : i = sb) => show TP (FX (FA mb pb sb) bk17) pb w81 i by first | omega | assumption | exact TP.back (by assumption) hi h | exact TP.back (by assumption) hi (TP.unfx h (by omega)) | exact Or.inl (by rw [h]; assumption) | exact h.elim (fun h => TP.back uPB hi h.fx) (fun h => by omega) | exact Or.inr ⟨h.2, h.1 ▸ hpl9.acc.blkT (h.1 ▸ h.2)⟩)).nx u127).next u137 (fun i hi (h : TQ (FA mb pb sb) pb w112 i) => show TP (FX (FA mb pb sb) bk17) pb w81 i by first | omega | assumption | exact TP.back (by assumption) hi h | exact TP.back (by assumption) hi (TP.unfx h (by omega)) | exact Or.inl (by rw [h]; assumption) | exact h.elim (fun h => TP.back uPB hi h.fx) (fun h => by omega) | exact Or.inr ⟨h.2, h.1 ▸ hpl9.acc.blkT (h.1 ▸ h.2)⟩)).nx u148).next u159 (fun i hi (h : i = sb) => show TP (FX (FA mb pb sb) bk17) pb w81 i by first | omega | assumption | exact TP.back (by assumption) hi h | exact TP.back (by assumption) hi (TP.unfx h (by omega)) | exact Or.inl (by rw [h]; assumption) | exact h.elim (fun h => TP.back uPB hi h.fx) (fun h => by omega) | exact Or.inr ⟨h.2, h.1 ▸ hpl9.acc.blkT (h.1 ▸ h.2)⟩))
    have uW : Upd (TP (FX (FX (FA mb pb sb) bk17) (w59.heap.size + 1)) pb w81) _ _ := hUr.mono (fun i h => h.fx)
    have B162 := ((B140.kx u148).keep u159 (by omega))
    have uT : Upd (· = sb) w136 w158 := (((Upd.refl (· = sb) _).nx u148).next u159 (fun i hi h => h))
    exact fun a ha => ⟨KeepsFrom.of_updB hUr hcellsR, (⟨⟨⟨_, _, _, _, tryF_step htr (by show asgP r xs0 (x.hm.map HM.mb) (rows.length + 1) u9 = _; rw [← hA9]; exact Prod.ext hq9 rfl), B160, hpl2.pop.upd uT (fun hb e => hpl2.nf hb (.inr e)) (fun q hq hb e => hpl2.pop.mf q hq hb (.inr e))⟩, B162, hY.hc.hu.next uW (fun i hi h => TP.back hY.hc.hu hi h)⟩, (hrow2.tpS hp.hsm hp.hcs (.inr rfl) hsb (uT.mono fun i e => .inl e)).toF hY.row.row, (hY.upd.mono fun i e => .inl (.inr e)).next uW (fun i hi h => TP.back (hY.upd.mono fun i e => .inl (.inr e)) hi h)⟩ : ZT (FX (FX (FA mb pb sb) bk17) (w59.heap.size + 1)) pb c r am mb cm n (AC (FX (FX (FA mb pb sb) bk17) (w59.heap.size + 1)) (fun t u => asgP r xs0 t.ms (rows.length + 1) u) (max up rows.length) mb pb sb bk17 rows w59) x _)⟩
   refine s_do (t_bslice (ps := [(0, .slice x.ao x.nums.length x.cap)]) (cs := [.slice x.ao x.nums.length x.cap]) (e := 60) rfl rfl ⟨rfl, rfl⟩ (fun w => by kernel_rfl) (fun bk163 w164 ebk163 sbk163 B165 u166 => ?_))
   have zu166 := u166.size
   refine s_next ((Upd.refl _ _).nx u166) (s_do ?_)
   have B168 := ((hsb9.kx u93).kx u166)
   refine t_load isAgg56 rfl rfl rfl (B168.get rfl) (s_next (Upd.refl _ _) (s_do ?_))
   have D169 := ((hpl9.acc.kE u93).kE u166)
   refine t_append (z := .slice none 0 0) (bytes := 24) (k := 1) (base := pb) (HT.hr x) underlying56 (by kernel_rfl) rfl (by decide) (fun _ => rfl) (by intro x; simp [encHR, Value.oneCell']) rfl rfl rfl rfl D169 B165 (by omega) (by omega) (by decide) (fun ao170 gb171 cp172 w173 A174 u175 gegb171 lngb171 => ?_)
   have zu175 := u175.size
   have lt_gb171 := A174.lt
   refine s_next ((Upd.refl _ _).next u175 (fun i hi (h : (i = gp9 ∧ pb ≤ i)) => show w92.heap.size ≤ i ∨ ((i = gp9 ∧ pb ≤ i) ∨ i = sb) by first | omega | exact .inr h)) (y_nilchk rfl rfl rfl (y_field underlying122 rfl sizeOf56 (0) rfl rfl rfl rfl (s_do ?_)))
   have B177 := (B168.keep u175 (by omega))
   refine t_st (vs := [.slice ao170 (((rows ++ [(HT.hr x)])).length) cp172]) sizeOf56 rfl rfl rfl B177 rfl rfl rfl rfl (fun w178 sw178 B180 u179 => ?_)
   have zu179 := u179.size
   have B180 : Blk w178 sb 122 [.slice ao170 (((rows ++ [(HT.hr x)])).length) cp172, .int .i64 (u9 : Int)] := B180
   refine s_next ((Upd.refl _ _).next u179 (fun i hi (h : i = sb) => show w92.heap.size ≤ i ∨ ((i = gp9 ∧ pb ≤ i) ∨ i = sb) by first | omega | exact .inr h)) (s_nil (hK91 _ _ (c_seq fun K182 hK182 => (c_seq fun K183 hK183 => ?_))))
   have B185 := ((((B84.kx u93).kx u166).keep u175 (by omega)).keep u179 (by omega))
   have nTb184 : ¬ TQ (FA mb pb sb) pb w178 bk2 := TQ.not (Upd.refl _ _) (fun h => by have := (hFAl _ h).2; omega) (by omega) B185 (by decide)
   have B187 := ((((B86.kx u93).kx u166).keep u175 (by omega)).keep u179 (by omega))
   have nTb186 : ¬ TQ (FA mb pb sb) pb w178 bk7 := TQ.not (Upd.refl _ _) (fun h => by have := (hFAl _ h).2; omega) (by omega) B187 (by decide)
   have B189 := ((((B88.kx u93).kx u166).keep u175 (by omega)).keep u179 (by omega))
   have nTb188 : ¬ TQ (FA mb pb sb) pb w178 bk12 := TQ.not (Upd.refl _ _) (fun h => by have := (hFAl _ h).2; omega) (by omega) B189 (by decide)
   have B191 := ((((hY.hc.b6.kx u93).kx u166).keep u175 (by omega)).keep u179 (by omega))
   have nTb190 : ¬ TQ (FA mb pb sb) pb w178 bk17 := TQ.not (Upd.refl _ _) (fun h => by have := (hFAl _ h).2; omega) (by omega) B191 (by decide)
   refine c_drawnM follows (fun i => TQ (FA mb pb sb) pb w178 i) (.look 0 (.look 1 (.look 2 (.look 3 (.act 4 .done .stop))))) (by kernel_rfl) fun w192 u193 => ?_
   have zu193 := u193.size
   have B195 := (B185.kx u193)
   refine y_load isAgg117 rfl rfl rfl (B195.get rfl) (by show ¬ (TQ (FA mb pb sb) pb w178 bk2); first | omega | assumption) ?_
   have B196 := (B187.kx u193)
   refine y_load isAgg120 rfl rfl rfl (B196.get rfl) (by show ¬ (TQ (FA mb pb sb) pb w178 bk7); first | omega | assumption) ?_
   have B197 := (B189.kx u193)
   refine y_load isAgg55 rfl rfl rfl (B197.get rfl) (by show ¬ (TQ (FA mb pb sb) pb w178 bk12); first | omega | assumption) (y_sliceFrom (1) underlying55 sizeOf68 rfl rfl rfl rfl rfl (by omega) hp.hcx (y_same 45 (v := .slice (subAddr ax cx 1 7) xs0.length (cx - 1)) rfl (by rw [hxl]; rfl) (s_do ?_)))
   have uQ : Upd (TP (fun i => i = sb) pb w81) w81 w192 := ((((((Upd.refl (TP (fun i => i = sb) pb w81) _).nx u93).nx u166).next u175 (fun i hi h => .inr ⟨h.2, h.1 ▸ hpl9.acc.blkT (h.1 ▸ h.2)⟩)).next u179 (fun i hi h => .inl h)).nx u193)
   have uPB : Upd (TP (FX (FA mb pb sb) bk17) pb w81) w81 w178 := ((((((Upd.refl (TP (fun i => i = sb) pb w81) _).nx u93).nx u166).next u175 (fun i hi h => .inr ⟨h.2, h.1 ▸ hpl9.acc.blkT (h.1 ▸ h.2)⟩)).next u179 (fun i hi h => .inl h))).mono (fun i h => h.elim (fun h => .inl (.inl (.inr h))) .inr)
   have B198 := (B180.kx u193)
   have D199 := ((A174.keep u179 (fun hb => show ¬ (gb171 = sb) by first | omega | assumption)).kE u193)
   have D200 := (((((((D55.kE u60).keep huR (fun h9 => by show ¬ (TP (FX (FX (FA mb pb sb) bk17) (w59.heap.size + 1)) pb w59 bx); have h8 := (hp.hbx h9).1; have h7 := hp.legs.lt h9; first | omega | exact fun e => h8 (.inr e) | exact hnx h9 | exact hxg h9)).kE u93).kE u166).keep u175 (fun h9 => by show ¬ ((bx = gp9 ∧ pb ≤ bx)); have h8 := (hp.hbx h9).1; have h7 := hp.legs.lt h9; first | omega | exact fun e => h8 (.inr e) | exact hnx h9 | exact hxg h9)).keep u179 (fun h9 => by show ¬ (bx = sb); have h8 := (hp.hbx h9).1; have h7 := hp.legs.lt h9; first | omega | exact fun e => h8 (.inr e) | exact hnx h9 | exact hxg h9)).kE u193)
   have hrowQ : RowC (FA mb pb sb) pb c r am mb cm n x.hm w192 := (hY.row.mono fun m hm hb hf => .inl (.inl hf)).tpS hp.hsm hp.hcs (.inr rfl) hsb uQ
   have hplQ : PlanM (FA mb pb sb) pb w192 ao170 gb171 cp172 (rows ++ [HT.hr x]) := hpl9.push (.inr rfl) uQ D199 (fun hb hf => by
     rcases (show gb171 = gp9 ∨ w0.heap.size ≤ gb171 by omega) with e | e
     · exact hpl9.nf (e ▸ hb) (e ▸ hf)
     · have := (hFAl _ hf).2; omega) hY.num (fun hb hf => hY.nf hb (.inl (.inl hf)))
   have hx1 : Sl encLeg 7 w192 (subAddr ax cx 1 7) bx (ox + 1 * 7) xs0 := by
     have h := (D200).sub cx 1 xs0.length hp.hcx
     rwa [hd1, List.take_length] at h
   have hbx1 : 0 < xs0.length → ¬ (FA mb pb sb) bx ∧ (pb ≤ bx → ∃ t cs, t ≠ 60 ∧ Blk w192 bx t cs) := fun _ => ⟨(hp.hbx hx0).1, fun hb => by
     obtain ⟨t, cs, ht, hB⟩ := hbxR hb
     have h8 := hB.keep hY.hc.hu (hnx hx0)
     exact ⟨t, cs, ht, h8.keep uQ (TP.not (fun e => (hp.hbx hx0).1 (.inr e)) h8 ht)⟩⟩
   refine t_call own58 rfl rfl rfl rfl ((ih x0 xs0 hxe r pb c am mb cm n sb _ bx _ _ x.hm _ ao170 gb171 cp172 u9 _ ⟨hp.hr, fun y hy => hp.hxs y (by rw [hxe]; exact List.mem_cons_of_mem _ hy), fun m hm => by have := hY.len m hm; have := hp.hB; omega, hx1, by have := hp.hcx; omega, hbx1, B198, hplQ, hrowQ, hp.hcm, hp.hcs, hsb, hp.hsm, hn6, by rw [List.length_append, List.length_singleton]; omega, ⟨hpb.1, by omega⟩⟩).mono fun _ _ h => AsgR.t h u193) (fun v201 w202 r204 => ?_)
   obtain ⟨rfl, ⟨rows2, ap2, gp2, cp2, hsb2, hpl2, hno2, hso2⟩, hrow2, u203⟩ := r204
   have zu203 := u203.size
   have hA9 : (asgP r xs0 (x.hm.map HM.mb) (rows ++ [HT.hr x]).length u9) = asgP r xs0 (x.hm.map HM.mb) (rows.length + 1) u9 := by rw [List.length_append]; rfl
   have B206 := ((B191.kx u193).keep u203 (show ¬ (TQ (FA mb pb sb) pb w178 bk17) by first | omega | assumption))
   have h6A := B206
   refine s_next ((Upd.refl _ _).next u203 (fun i hi (h : TQ (FA mb pb sb) pb w178 i) => show w192.heap.size ≤ i ∨ (TQ (FA mb pb sb) pb w178 i) by first | omega | exact .inr h)) (s_nil (hK183 _ _ (c_cond rfl (fun g46 => ?_) (fun g46 => ?_))))
   ·
    obtain ⟨q9, hq9⟩ := Option.isSome_iff_exists.1 g46
    refine c_seq fun K207 hK207 => (c_region (t_st (vs := [.bool true]) sizeOf4 rfl rfl rfl B206 rfl rfl rfl rfl (fun w208 sw208 B210 u209 => ?_)))
    have zu209 := u209.size
    have B210 : Blk w208 bk17 4 [.bool true] := B210
    refine t_nil' (hK207 _ _ (c_ret ?_))
    have hUr := ((((((((Upd.refl (fun i => TP (FX (FA mb pb sb) bk17) pb w81 i) w81).nx u93).nx u166).next u175 (fun i hi (h : (i = gp9 ∧ pb ≤ i)) => show TP (FX (FA mb pb sb) bk17) pb w81 i by first | omega | assumption | exact TP.back (by assumption) hi h | exact TP.back (by assumption) hi (TP.unfx h (by omega)) | exact Or.inl (by rw [h]; assumption) | exact h.elim (fun h => TP.back uPB hi h.fx) (fun h => by omega) | exact Or.inr ⟨h.2, h.1 ▸ hpl9.acc.blkT (h.1 ▸ h.2)⟩)).next u179 (fun i hi (h : i = sb) => show TP (FX (FA mb pb sb) bk17) pb w81 i by first | omega | assumption | exact TP.back (by assumption) hi h | exact TP.back (by assumption) hi (TP.unfx h (by omega)) | exact Or.inl (by rw [h]; assumption) | exact h.elim (fun h => TP.back uPB hi h.fx) (fun h => by omega) | exact Or.inr ⟨h.2, h.1 ▸ hpl9.acc.blkT (h.1 ▸ h.2)⟩)).nx u193).next u203 (fun i hi (h : TQ (FA mb pb sb) pb w178 i) => show TP (FX (FA mb pb sb) bk17) pb w81 i by first | omega | assumption | exact TP.back (by assumption) hi h | exact TP.back (by assumption) hi (TP.unfx h (by omega)) | exact Or.inl (by rw [h]; assumption) | exact h.elim (fun h => TP.back uPB hi h.fx) (fun h => by omega) | exact Or.inr ⟨h.2, h.1 ▸ hpl9.acc.blkT (h.1 ▸ h.2)⟩)).next u209 (fun i hi (h : i = bk17) => show TP (FX (FA mb pb sb) bk17) pb w81 i by first | omega | assumption | exact TP.back (by assumption) hi h | exact TP.back (by assumption) hi (TP.unfx h (by omega)) | exact Or.inl (by rw [h]; assumption) | exact h.elim (fun h => TP.back uPB hi h.fx) (fun h => by omega) | exact Or.inr ⟨h.2, h.1 ▸ hpl9.acc.blkT (h.1 ▸ h.2)⟩))
    have uW : Upd (TP (FX (FX (FA mb pb sb) bk17) (w59.heap.size + 1)) pb w81) _ _ := hUr.mono (fun i h => h.fx)
    have B212 := (hsb2.keep u209 (by omega))
    have uT : Upd (· = bk17) w202 w208 := ((Upd.refl (· = bk17) _).next u209 (fun i hi h => h))
    exact fun a ha => ⟨KeepsFrom.of_updB hUr hcellsR, (⟨⟨⟨_, _, q9, _, _, _, _, htr, (by show asgP r xs0 (x.hm.map HM.mb) (rows.length + 1) u9 = _; rw [← hA9]; exact Prod.ext hq9 rfl), B212, hpl2.up6 h6A uT, by rw [hso2 q9 hq9, List.map_append, List.append_assoc]; rfl⟩, B210, hY.hc.hu.next uW (fun i hi h => TP.back hY.hc.hu hi h)⟩, (hrow2.up6 h6A (by omega) uT).f0, (hY.upd.mono fun i e => .inl (.inr e)).next uW (fun i hi h => TP.back (hY.upd.mono fun i e => .inl (.inr e)) hi h)⟩ : FT (FX (FX (FA mb pb sb) bk17) (w59.heap.size + 1)) pb c r am mb cm n (AF (FX (FX (FA mb pb sb) bk17) (w59.heap.size + 1)) (fun t u => asgP r xs0 t.ms (rows.length + 1) u) (max up rows.length) mb pb sb bk17 rows w59) id x _)⟩
   have hq9 := Option.not_isSome_iff_eq_none.1 (fun h => by rw [h] at g46; cases g46)
   have hr2 := hno2 hq9
   rw [hr2] at hsb2 hpl2
   have lt_gp2 := hpl2.acc.lt
   refine c_skip (hK182 _ _ (c_drawnM follows (fun i => i = sb) (.look 0 (.look 1 (.look 2 (.look 3 (.look 5 (.look 6 (.look 7 (.act 4 (.act 8 (.look 9 (.look 10 (.look 11 (.look 12 (.look 13 (.act 14 .done .stop)))))) .stop) (.act 8 (.look 9 (.look 10 (.act 4 (.look 11 (.look 12 (.look 13 (.act 14 .done .stop)))) .stop))) .stop))))))))) (by kernel_rfl) fun w213 u214 => ?_))
   have zu214 := u214.size
   have B216 := (((B187.kx u193).keep u203 (show ¬ (TQ (FA mb pb sb) pb w178 bk7) by first | omega | assumption)).kx u214)
   refine y_load isAgg120 rfl rfl rfl (B216.get rfl) (by show ¬ (bk7 = sb); first | omega | assumption) (y_load isAgg120 rfl rfl rfl (B216.get rfl) (by show ¬ (bk7 = sb); first | omega | assumption) (y_nilchk rfl rfl rfl (y_field underlying122 rfl sizeOf56 (0) rfl rfl rfl rfl (y_load isAgg120 rfl rfl rfl (B216.get rfl) (by show ¬ (bk7 = sb); first | omega | assumption) (y_nilchk rfl rfl rfl (y_field underlying122 rfl sizeOf56 (0) rfl rfl rfl rfl (s_or ?_ ?_)))))))
   ·
    refine s_do ?_
    have B217 := (hsb2.kx u214)
    refine t_load isAgg56 rfl rfl rfl (B217.get rfl) (s_next (Upd.refl _ _) (s_do (t_load isAgg56 rfl rfl rfl (B217.get rfl) (s_next (Upd.refl _ _) (y_len underlying56 rfl rfl rfl rfl (y_ari rfl rfl rfl rfl rfl (by omega) (y_sliceTo (rows.length) underlying56 sizeOf60 rfl rfl rfl rfl (by rw [List.length_append, List.length_singleton]; omega) (by have := hpl2.acc.cap_le; rw [List.length_append, List.length_singleton] at this; omega) (y_same 58 (v := .slice ap2 rows.length cp2) rfl (by rw [hpl2.acc.sub0 (by simp)]) (y_nilchk rfl rfl rfl (y_field underlying122 rfl sizeOf56 (0) rfl rfl rfl rfl (s_do (t_st (vs := [.slice ap2 rows.length cp2]) sizeOf56 rfl rfl rfl B217 rfl rfl rfl rfl (fun w218 sw218 B220 u219 => ?_)))))))))))))
    have zu219 := u219.size
    have B220 : Blk w218 sb 122 [.slice ap2 rows.length cp2, .int .i64 ((asgP r xs0 (x.hm.map HM.mb) (rows ++ [HT.hr x]).length u9).2 : Int)] := B220
    refine s_next ((Upd.refl _ _).next u219 (fun i hi (h : i = sb) => show w213.heap.size ≤ i ∨ (i = sb) by first | omega | exact .inr h)) (s_nil ?_)
    have hUr := (((((((((Upd.refl (fun i => TP (FX (FA mb pb sb) bk17) pb w81 i) w81).nx u93).nx u166).next u175 (fun i hi (h : (i = gp9 ∧ pb ≤ i)) => show TP (FX (FA mb pb sb) bk17) pb w81 i by first | omega | assumption | exact TP.back (by assumption) hi h | exact TP.back (by assumption) hi (TP.unfx h (by omega)) | exact Or.inl (by rw [h]; assumption) | exact h.elim (fun h => TP.back uPB hi h.fx) (fun h => by omega) | exact Or.inr ⟨h.2, h.1 ▸ hpl9.acc.blkT (h.1 ▸ h.2)⟩)).next u179 (fun i hi (h : i = sb) => show TP (FX (FA mb pb sb) bk17) pb w81 i by first | omega | assumption | exact TP.back (by assumption) hi h | exact TP.back (by assumption) hi (TP.unfx h (by omega)) | exact Or.inl (by rw [h]; assumption) | exact h.elim (fun h => TP.back uPB hi h.fx) (fun h => by omega) | exact Or.inr ⟨h.2, h.1 ▸ hpl9.acc.blkT (h.1 ▸ h.2)⟩)).nx u193).next u203 (fun i hi (h : TQ (FA mb pb sb) pb w178 i) => show TP (FX (FA mb pb sb) bk17) pb w81 i by first | omega | assumption | exact TP.back (by assumption) hi h | exact TP.back (by assumption) hi (TP.unfx h (by omega)) | exact Or.inl (by rw [h]; assumption) | exact h.elim (fun h => TP.back uPB hi h.fx) (fun h => by omega) | exact Or.inr ⟨h.2, h.1 ▸ hpl9.acc.blkT (h.1 ▸ h.2)⟩)).nx u214).next u219 (fun i hi (h : i = sb) => show TP (FX (FA mb pb sb) bk17) pb w81 i by first | omega | assumption | exact TP.back (by assumption) hi h | exact TP.back (by assumption) hi (TP.unfx h (by omega)) | exact Or.inl (by rw [h]; assumption) | exact h.elim (fun h => TP.back uPB hi h.fx) (fun h => by omega) | exact Or.inr ⟨h.2, h.1 ▸ hpl9.acc.blkT (h.1 ▸ h.2)⟩))
    have uW : Upd (TP (FX (FX (FA mb pb sb) bk17) (w59.heap.size + 1)) pb w81) _ _ := hUr.mono (fun i h => h.fx)
    have B222 := ((B206.kx u214).keep u219 (by omega))
    have uT : Upd (· = sb) w202 w218 := (((Upd.refl (· = sb) _).nx u214).next u219 (fun i hi h => h))
    exact fun a ha => ⟨KeepsFrom.of_updB hUr hcellsR, (⟨⟨⟨_, _, _, _, tryF_step htr (by show asgP r xs0 (x.hm.map HM.mb) (rows.length + 1) u9 = _; rw [← hA9]; exact Prod.ext hq9 rfl), B220, hpl2.pop.upd uT (fun hb e => hpl2.nf hb (.inr e)) (fun q hq hb e => hpl2.pop.mf q hq hb (.inr e))⟩, B222, hY.hc.hu.next uW (fun i hi h => TP.back hY.hc.hu hi h)⟩, (hrow2.tpS hp.hsm hp.hcs (.inr rfl) hsb (uT.mono fun i e => .inl e)).toF hY.row.row, (hY.upd.mono fun i e => .inl (.inr e)).next uW (fun i hi h => TP.back (hY.upd.mono fun i e => .inl (.inr e)) hi h)⟩ : ZT (FX (FX (FA mb pb sb) bk17) (w59.heap.size + 1)) pb c r am mb cm n (AC (FX (FX (FA mb pb sb) bk17) (w59.heap.size + 1)) (fun t u => asgP r xs0 t.ms (rows.length + 1) u) (max up rows.length) mb pb sb bk17 rows w59) x _)⟩
   refine s_do ?_
   have B223 := (hsb2.kx u214)
   refine t_load isAgg56 rfl rfl rfl (B223.get rfl) (s_next (Upd.refl _ _) (y_len underlying56 rfl rfl rfl rfl (y_ari rfl rfl rfl rfl rfl (by omega) (s_do (t_load isAgg56 rfl rfl rfl (B223.get rfl) (s_next (Upd.refl _ _) (y_sliceTo (rows.length) underlying56 sizeOf60 rfl rfl rfl rfl (by rw [List.length_append, List.length_singleton]; omega) (by have := hpl2.acc.cap_le; rw [List.length_append, List.length_singleton] at this; omega) (y_same 58 (v := .slice ap2 rows.length cp2) rfl (by rw [hpl2.acc.sub0 (by simp)]) (y_nilchk rfl rfl rfl (y_field underlying122 rfl sizeOf56 (0) rfl rfl rfl rfl (s_do (t_st (vs := [.slice ap2 rows.length cp2]) sizeOf56 rfl rfl rfl B223 rfl rfl rfl rfl (fun w224 sw224 B226 u225 => ?_)))))))))))))
   have zu225 := u225.size
   have B226 : Blk w224 sb 122 [.slice ap2 rows.length cp2, .int .i64 ((asgP r xs0 (x.hm.map HM.mb) (rows ++ [HT.hr x]).length u9).2 : Int)] := B226
   refine s_next ((Upd.refl _ _).next u225 (fun i hi (h : i = sb) => show w213.heap.size ≤ i ∨ (i = sb) by first | omega | exact .inr h)) (s_nil ?_)
   have hUr := (((((((((Upd.refl (fun i => TP (FX (FA mb pb sb) bk17) pb w81 i) w81).nx u93).nx u166).next u175 (fun i hi (h : (i = gp9 ∧ pb ≤ i)) => show TP (FX (FA mb pb sb) bk17) pb w81 i by first | omega | assumption | exact TP.back (by assumption) hi h | exact TP.back (by assumption) hi (TP.unfx h (by omega)) | exact Or.inl (by rw [h]; assumption) | exact h.elim (fun h => TP.back uPB hi h.fx) (fun h => by omega) | exact Or.inr ⟨h.2, h.1 ▸ hpl9.acc.blkT (h.1 ▸ h.2)⟩)).next u179 (fun i hi (h : i = sb) => show TP (FX (FA mb pb sb) bk17) pb w81 i by first | omega | assumption | exact TP.back (by assumption) hi h | exact TP.back (by assumption) hi (TP.unfx h (by omega)) | exact Or.inl (by rw [h]; assumption) | exact h.elim (fun h => TP.back uPB hi h.fx) (fun h => by omega) | exact Or.inr ⟨h.2, h.1 ▸ hpl9.acc.blkT (h.1 ▸ h.2)⟩)).nx u193).next u203 (fun i hi (h : TQ (FA mb pb sb) pb w178 i) => show TP (FX (FA mb pb sb) bk17) pb w81 i by first | omega | assumption | exact TP.back (by assumption) hi h | exact TP.back (by assumption) hi (TP.unfx h (by omega)) | exact Or.inl (by rw [h]; assumption) | exact h.elim (fun h => TP.back uPB hi h.fx) (fun h => by omega) | exact Or.inr ⟨h.2, h.1 ▸ hpl9.acc.blkT (h.1 ▸ h.2)⟩)).nx u214).next u225 (fun i hi (h : i = sb) => show TP (FX (FA mb pb sb) bk17) pb w81 i by first | omega | assumption | exact TP.back (by assumption) hi h | exact TP.back (by assumption) hi (TP.unfx h (by omega)) | exact Or.inl (by rw [h]; assumption) | exact h.elim (fun h => TP.back uPB hi h.fx) (fun h => by omega) | exact Or.inr ⟨h.2, h.1 ▸ hpl9.acc.blkT (h.1 ▸ h.2)⟩))
   have uW : Upd (TP (FX (FX (FA mb pb sb) bk17) (w59.heap.size + 1)) pb w81) _ _ := hUr.mono (fun i h => h.fx)
   have B228 := ((B206.kx u214).keep u225 (by omega))
   have uT : Upd (· = sb) w202 w224 := (((Upd.refl (· = sb) _).nx u214).next u225 (fun i hi h => h))
   exact fun a ha => ⟨KeepsFrom.of_updB hUr hcellsR, (⟨⟨⟨_, _, _, _, tryF_step htr (by show asgP r xs0 (x.hm.map HM.mb) (rows.length + 1) u9 = _; rw [← hA9]; exact Prod.ext hq9 rfl), B226, hpl2.pop.upd uT (fun hb e => hpl2.nf hb (.inr e)) (fun q hq hb e => hpl2.pop.mf q hq hb (.inr e))⟩, B228, hY.hc.hu.next uW (fun i hi h => TP.back hY.hc.hu hi h)⟩, (hrow2.tpS hp.hsm hp.hcs (.inr rfl) hsb (uT.mono fun i e => .inl e)).toF hY.row.row, (hY.upd.mono fun i e => .inl (.inr e)).next uW (fun i hi h => TP.back (hY.upd.mono fun i e => .inl (.inr e)) hi h)⟩ : ZT (FX (FX (FA mb pb sb) bk17) (w59.heap.size + 1)) pb c r am mb cm n (AC (FX (FX (FA mb pb sb) bk17) (w59.heap.size + 1)) (fun t u => asgP r xs0 t.ms (rows.length + 1) u) (max up rows.length) mb pb sb bk17 rows w59) x _)⟩
  ·
   have D231 := (((((((((show Marks w0.heap.size [] w0 from trivial).keepB u5 (CellsB.of (CellsIn.none _))).keepB u10 (CellsB.of (CellsIn.none _))).keepB u15 (CellsB.of (CellsIn.none _))).keepB u20 (CellsB.of (CellsIn.none _))).keepB u24 (CellsB.of (CellsIn.none _))).keepB u29 (CellsB.of (B27).cellsIn)).keepB u51 (CellsB.of (CellsIn.none _))).keepB u60 (CellsB.of (CellsIn.none _)))
   have hmk0 := D231
   have hmc0 := (TP.cellsB6 (F := (FA mb pb sb)) (pb := pb) (B := w0.heap.size) (w := w59) (fun i h => (hFAl i h).2) B63)
   intro D230 w229 hD230 hE hdD230
   have hu9 : Upd (TP (FX (FA mb pb sb) bk17) pb w59) w59 w229 := ⟨hE.hu.os, hE.hu.tape, hE.hu.output, hE.hu.size, fun k hk hn => hE.hu.block k hk (fun h => hn (h.unfx (by omega)))⟩
   have zhu9 := hu9.size
   obtain ⟨pr9, v9, po9, e9, hAF9⟩ := hE.hi
   obtain ⟨u1E, uE, qE, rowsE, apE, gpE, cpE, htE, hfE, hsbE, hplE, hmE⟩ := hAF9.ex
   have mk233 := (hmk0.keepB hu9 hmc0).push (D := D230) (by omega) hdD230 (fun d hd D' e => Nat.lt_of_lt_of_le (hmk0.lt d hd D' e) hD230)
   have hrowE : RowC (FA mb pb sb) pb c r am mb cm n ms _ := hE.row.toF hp.row.row
   have hmkE := mk233
   refine f_retMc1 (v := .bool true) results58 (.cell mk233 rfl isAgg4 hAF9.b6 rfl) mk233 (fun w234 u235 omw234 => ?_)
   have zu235 := u235.size
   have E236 := (E62.next hu9 (fun i hi (h : TP (FX (FA mb pb sb) bk17) pb w59 i) => show TP (FA mb pb sb) pb w0 i by first | omega | assumption | exact TP.back (by assumption) hi h | exact TP.back (by assumption) hi (TP.unfx h (by omega)) | exact Or.inl (by rw [h]; assumption) | exact h.elim (fun h => TP.back uPB hi h.fx) (fun h => by omega) | exact Or.inr ⟨h.2, h.1 ▸ hpl9.acc.blkT (h.1 ▸ h.2)⟩)).next u235 (fun i hi (h : w0.heap.size ≤ i) => show TP (FA mb pb sb) pb w0 i by first | omega | assumption | exact TP.back (by assumption) hi h | exact TP.back (by assumption) hi (TP.unfx h (by omega)) | exact Or.inl (by rw [h]; assumption) | exact h.elim (fun h => TP.back uPB hi h.fx) (fun h => by omega) | exact Or.inr ⟨h.2, h.1 ▸ hpl9.acc.blkT (h.1 ▸ h.2)⟩)
   have hres := tryF_hit (post := po9) htE hfE
   rw [← e9, ← hasg] at hres
   rw [hres]
   exact ⟨rfl, ⟨rowsE, apE, gpE, cpE, hsbE.keep omw234 (hmkE.notBlk hsbE), (hplE).bent omw234 (fun i hi => (hmkE.bent i hi).2), fun h => (by cases h), fun p h => by
     injection h with h; subst h; exact hmE⟩, (RowC.bent (B := w0.heap.size) (by omega) _ _ _ _ (hrowE) omw234 hmkE.bent), E236⟩
  ·
   have D239 := (((((((((show Marks w0.heap.size [] w0 from trivial).keepB u5 (CellsB.of (CellsIn.none _))).keepB u10 (CellsB.of (CellsIn.none _))).keepB u15 (CellsB.of (CellsIn.none _))).keepB u20 (CellsB.of (CellsIn.none _))).keepB u24 (CellsB.of (CellsIn.none _))).keepB u29 (CellsB.of (B27).cellsIn)).keepB u51 (CellsB.of (CellsIn.none _))).keepB u60 (CellsB.of (CellsIn.none _)))
   have hmk0 := D239
   have hmc0 := (TP.cellsB6 (F := (FA mb pb sb)) (pb := pb) (B := w0.heap.size) (w := w59) (fun i h => (hFAl i h).2) B63)
   intro D238 w237 hD238 hE hdD238
   have hu9 : Upd (TP (FX (FA mb pb sb) bk17) pb w59) w59 w237 := ⟨hE.hu.os, hE.hu.tape, hE.hu.output, hE.hu.size, fun k hk hn => hE.hu.block k hk (fun h => hn (h.unfx (by omega)))⟩
   have zhu9 := hu9.size
   obtain ⟨uE, apE, gpE, cpE, htE, hsbE, hplE⟩ := hE.hi.ex
   have mk241 := (hmk0.keepB hu9 hmc0).push (D := D238) (by omega) hdD238 (fun d hd D' e => Nat.lt_of_lt_of_le (hmk0.lt d hd D' e) hD238)
   refine hK48 _ _ (c_seq fun K242 hK242 => (c_region (t_st (vs := [.bool false]) sizeOf4 rfl rfl rfl hE.hi.b6 rfl rfl rfl rfl (fun w243 sw243 B245 u244 => ?_))))
   have zu244 := u244.size
   have E246 := (E62.next hu9 (fun i hi (h : TP (FX (FA mb pb sb) bk17) pb w59 i) => show TP (FA mb pb sb) pb w0 i by first | omega | assumption | exact TP.back (by assumption) hi h | exact TP.back (by assumption) hi (TP.unfx h (by omega)) | exact Or.inl (by rw [h]; assumption) | exact h.elim (fun h => TP.back uPB hi h.fx) (fun h => by omega) | exact Or.inr ⟨h.2, h.1 ▸ hpl9.acc.blkT (h.1 ▸ h.2)⟩)).next u244 (fun i hi (h : i = bk17) => show TP (FA mb pb sb) pb w0 i by first | omega | assumption | exact TP.back (by assumption) hi h | exact TP.back (by assumption) hi (TP.unfx h (by omega)) | exact Or.inl (by rw [h]; assumption) | exact h.elim (fun h => TP.back uPB hi h.fx) (fun h => by omega) | exact Or.inr ⟨h.2, h.1 ▸ hpl9.acc.blkT (h.1 ▸ h.2)⟩)
   have B245 : Blk w243 bk17 4 [.bool false] := B245
   refine t_nil' (hK242 _ _ (c_ret ?_))
   have B247 := (hsbE.keep u244 (by omega))
   have uT : Upd (· = bk17) w237 w243 := ((Upd.refl (· = bk17) _).next u244 (fun i hi h => h))
   have hrowE : RowC (FA mb pb sb) pb c r am mb cm n ms w243 := (hE.row.toF hp.row.row).up6 hE.hi.b6 (by omega) uT
   have hplE9 := hplE.up6 hE.hi.b6 uT
   have D250 := (mk241.keepB u244 (CellsB.of (hE.hi.b6).cellsIn))
   have hmkE := D250
   refine f_retMc1 (v := .bool false) results58 (.cell D250 rfl isAgg4 B245 rfl) D250 (fun w248 u249 omw248 => ?_)
   have zu249 := u249.size
   rw [← hasg] at htE
   rw [htE]
   exact ⟨rfl, ⟨rows, apE, gpE, cpE, B247.keep omw248 (hmkE.notBlk B247), (hplE9).bent omw248 (fun i hi => (hmkE.bent i hi).2), fun _ => rfl, fun p h => (by cases h)⟩, (RowC.bent (B := w0.heap.size) (by omega) _ _ _ _ (hrowE) omw248 hmkE.bent), (E246.next u249 (fun i hi (h : w0.heap.size ≤ i) => show TP (FA mb pb sb) pb w0 i by first | omega | assumption | exact TP.back (by assumption) hi h | exact TP.back (by assumption) hi (TP.unfx h (by omega)) | exact Or.inl (by rw [h]; assumption) | exact h.elim (fun h => TP.back uPB hi h.fx) (fun h => by omega) | exact Or.inr ⟨h.2, h.1 ▸ hpl9.acc.blkT (h.1 ▸ h.2)⟩))⟩
 refine s_do ?_
 have B252 := (((((hp.sblk.kx u5).kx u10).kx u15).kx u20).kx u24)
 refine t_load isAgg56 rfl rfl rfl (B252.get rfl) (s_next (Upd.refl _ _) (y_len underlying56 rfl rfl rfl rfl (s_do (t_load isAgg3 rfl rfl rfl (B252.get rfl) (s_next (Upd.refl _ _) (y_max rfl rfl rfl rfl (y_nilchk rfl rfl rfl (y_field underlying122 rfl sizeOf3 (1) rfl rfl rfl rfl (s_do (t_st (vs := [.int .i64 (max (up : Int) (rows.length : Int))]) sizeOf3 rfl rfl rfl B252 rfl rfl rfl rfl (fun w253 sw253 B255 u254 => ?_)))))))))))
 have zu254 := u254.size
 have E256 := E25.next u254 (fun i hi (h : i = sb) => show TP (FA mb pb sb) pb w0 i by first | omega | assumption | exact TP.back (by assumption) hi h | exact TP.back (by assumption) hi (TP.unfx h (by omega)) | exact Or.inl (by rw [h]; assumption) | exact h.elim (fun h => TP.back uPB hi h.fx) (fun h => by omega) | exact Or.inr ⟨h.2, h.1 ▸ hpl9.acc.blkT (h.1 ▸ h.2)⟩)
 have B255 : Blk w253 sb 122 [.slice ap rows.length cp, .int .i64 (max (up : Int) (rows.length : Int))] := B255
 refine s_next ((Upd.refl _ _).next u254 (fun i hi (h : i = sb) => show w23.heap.size ≤ i ∨ (i = sb) by first | omega | exact .inr h)) (s_nil (hK22 _ _ (c_seq fun K257 hK257 => (c_seq fun K258 hK258 => (c_region ?_)))))
 have B259 := (((B14.kx u20).kx u24).keep u254 (by omega))
 refine t_load isAgg55 rfl rfl rfl (B259.get rfl) (t_len underlying55 rfl rfl rfl rfl (t_cmp rfl rfl rfl rfl rfl (t_nil' (hK258 _ _ (c_condp rfl (fun g23 => ?_) (fun g23 => ?_))))))
 ·
  have B260 : Blk w253 sb 122 [.slice ap rows.length cp, .int .i64 (((max up rows.length) : Nat) : Int)] := by
    have e : ([.slice ap rows.length cp, .int .i64 (max (up : Int) (rows.length : Int))] : List Value) = [.slice ap rows.length cp, .int .i64 (((max up rows.length) : Nat) : Int)] := (by rw [show (((max up rows.length) : Nat) : Int) = max (up : Int) (rows.length : Int) by omega])
    rw [← e]; exact B255
  refine c_seq fun K261 hK261 => (c_region ?_)
  have B262 := ((B19.kx u24).keep u254 (by omega))
  refine t_st (vs := [.bool true]) sizeOf4 rfl rfl rfl B262 rfl rfl rfl rfl (fun w263 sw263 B265 u264 => ?_)
  have zu264 := u264.size
  have B265 : Blk w263 bk17 4 [.bool true] := B265
  refine t_nil' (hK261 _ _ (c_ret ?_))
  have B267 := (B260.keep u264 (by omega))
  have uS : Upd (· = sb) w0 w263 := ((((((((Upd.refl (· = sb) _).nx u5).nx u10).nx u15).nx u20).nx u24).next u254 (fun i hi h => h)).next u264 (fun i hi h => by omega))
  have hrowE : RowC (FA mb pb sb) pb c r am mb cm n ms w263 := hp.row.tpS hp.hsm hp.hcs (.inr rfl) hsb (uS.mono fun i e => .inl e)
  have hplE : PlanM (FA mb pb sb) pb w263 ap gp cp rows := hp.plan.upd uS (fun hb e => hp.plan.nf hb (.inr e)) (fun q hq hb e => hp.plan.mf q hq hb (.inr e))
  have D270 := ((((((((show Marks w0.heap.size [] w0 from trivial).keepB u5 (CellsB.of (CellsIn.none _))).keepB u10 (CellsB.of (CellsIn.none _))).keepB u15 (CellsB.of (CellsIn.none _))).keepB u20 (CellsB.of (CellsIn.none _))).keepB u24 (CellsB.of (CellsIn.none _))).keepB u254 (CellsB.of (B252).cellsIn)).keepB u264 (CellsB.of (B262).cellsIn))
  have hmkE := D270
  refine f_retMc1 (v := .bool true) results58 (.cell D270 rfl isAgg4 B265 rfl) D270 (fun w268 u269 omw268 => ?_)
  have zu269 := u269.size
  have E271 := (E256.next u264 (fun i hi (h : i = bk17) => show TP (FA mb pb sb) pb w0 i by first | omega | assumption | exact TP.back (by assumption) hi h | exact TP.back (by assumption) hi (TP.unfx h (by omega)) | exact Or.inl (by rw [h]; assumption) | exact h.elim (fun h => TP.back uPB hi h.fx) (fun h => by omega) | exact Or.inr ⟨h.2, h.1 ▸ hpl9.acc.blkT (h.1 ▸ h.2)⟩)).next u269 (fun i hi (h : w0.heap.size ≤ i) => show TP (FA mb pb sb) pb w0 i by first | omega | assumption | exact TP.back (by assumption) hi h | exact TP.back (by assumption) hi (TP.unfx h (by omega)) | exact Or.inl (by rw [h]; assumption) | exact h.elim (fun h => TP.back uPB hi h.fx) (fun h => by omega) | exact Or.inr ⟨h.2, h.1 ▸ hpl9.acc.blkT (h.1 ▸ h.2)⟩)
  have hx0 : xs = [] := List.eq_nil_of_length_eq_zero (by omega)
  subst hx0
  exact ⟨rfl, ⟨rows, ap, gp, cp, B267.keep omw268 (hmkE.notBlk B267), (hplE).bent omw268 (fun i hi => (hmkE.bent i hi).2), fun h => (by cases h), fun p h => by
    injection h with h; subst h; rw [List.append_nil]⟩, (RowC.bent (B := w0.heap.size) (by omega) _ _ _ _ (hrowE) omw268 hmkE.bent), E271⟩
 have B272 : Blk w253 sb 122 [.slice ap rows.length cp, .int .i64 (((max up rows.length) : Nat) : Int)] := by
   have e : ([.slice ap rows.length cp, .int .i64 (max (up : Int) (rows.length : Int))] : List Value) = [.slice ap rows.length cp, .int .i64 (((max up rows.length) : Nat) : Int)] := (by rw [show (((max up rows.length) : Nat) : Int) = max (up : Int) (rows.length : Int) by omega])
   rw [← e]; exact B255
 have hx0 : 0 < xs.length := by omega
 obtain ⟨x0, xs0, hxe⟩ : ∃ a b, xs = a :: b := List.exists_cons_of_length_pos hx0
 have hxl : xs.length = xs0.length + 1 := by rw [hxe]; rfl
 have hd1 : xs.drop 1 = xs0 := by rw [hxe]; rfl
 have hasg : ∀ ms k u, asgP r xs ms k u = tryF (fun t u => asgP r xs0 t.ms (k + 1) u) (teamsP r (nth xs 0) (nth xs 0).h.toNat 0 [] 0 ms) (max u k) := fun ms k u => by rw [hxe]; rfl
 refine c_skip (hK257 _ _ (c_seq fun K273 hK273 => (c_seq fun K274 hK274 => (c_drawnM follows (fun _ => False) (.look 0 (.look 1 (.look 2 (.look 3 (.look 4 (.act 5 .done .stop)))))) (by kernel_rfl) fun w275 u276 => ?_))))
 have zu276 := u276.size
 have B278 := ((((((B4.kx u10).kx u15).kx u20).kx u24).keep u254 (by omega)).kx u276)
 refine y_load isAgg117 rfl rfl rfl (B278.get rfl) (fun h => h) ?_
 have B279 := (B259.kx u276)
 refine y_load isAgg55 rfl rfl rfl (B279.get rfl) (fun h => h) ?_
 have D280 := (((((((hp.legs.kE u5).kE u10).kE u15).kE u20).kE u24).keep u254 (fun h9 => by show ¬ (bx = sb); have h8 := (hp.hbx h9).1; have h7 := hp.legs.lt h9; first | omega | exact fun e => h8 (.inr e) | exact hnx h9 | exact hxg h9)).kE u276)
 have i281 : 0 < xs.length := (by omega)
 refine y_index (j := 0) underlying55 sizeOf68 rfl rfl rfl rfl (D280.addr (by omega)) rfl i281 ?_
 have D282 := (((((((hp.legs.kE u5).kE u10).kE u15).kE u20).kE u24).keep u254 (fun h9 => by show ¬ (bx = sb); have h8 := (hp.hbx h9).1; have h7 := hp.legs.lt h9; first | omega | exact fun e => h8 (.inr e) | exact hnx h9 | exact hxg h9)).kE u276)
 refine y_loadN (vs := [.int .i64 ((nth xs 0).r), .int .i64 ((nth xs 0).t.bl), .int .i64 ((nth xs 0).t.bh), .int .i64 ((nth xs 0).t.el), .int .i64 ((nth xs 0).t.eh), .int .i64 ((nth xs 0).h), .int .i64 ((nth xs 0).p)]) isAgg68 sizeOf68 rfl rfl rfl ((D282.at_ 0 (by omega)).sub 0 7) rfl (fun h => h) (y_build (ps := []) (v := .agg #[.slice none 0 0, .int .i64 0]) rfl rfl ⟨rfl, rfl⟩ (fun w => by kernel_rfl) (s_do (t_call own90 rfl rfl rfl rfl (teams_c c (nth xs 0) 0 [] none 0 0 _) (fun v283 w284 r286 => ?_))))
 obtain ⟨⟨bT7, bT5, bT6, bT4, rfl, hT7, hT5, hT6, hT4, gT7, gT5, gT6, gT4⟩, u285⟩ := r286
 have zu285 := u285.size
 have E287 := (E256.nx u276).nx u285
 refine s_next ((Upd.refl _ _).nx u285) (s_nil (hK274 _ _ (c_block ?_)))
 have hP0 : Upd (TP (FA mb pb sb) pb w0) w0 w284 := E287
 have uS : Upd (· = sb) w0 w284 := (((((((((Upd.refl (· = sb) _).nx u5).nx u10).nx u15).nx u20).nx u24).next u254 (fun i hi h => h)).nx u276).nx u285)
 have B288 := ((((B19.kx u24).keep u254 (by omega)).kx u276).kx u285)
 have B289 := ((B272.kx u276).kx u285)
 have hrowR : RowC (FA mb pb sb) pb c r am mb cm n ms w284 := hp.row.tpS hp.hsm hp.hcs (.inr rfl) hsb (uS.mono fun i e => .inl e)
 have hplR : PlanM (FA mb pb sb) pb w284 ap gp cp rows := hp.plan.upd uS (fun hb e => hp.plan.nf hb (.inr e)) (fun q hq hb e => hp.plan.mf q hq hb (.inr e))
 have l6 := B288.lt
 have hx30 := okLeg_ok (hp.hxs _ (nth_mem hx0))
 have hbxR : pb ≤ bx → ∃ t cs, t ≠ 60 ∧ Blk w284 bx t cs := fun hb => by
   obtain ⟨t, cs, ht, hB⟩ := (hp.hbx hx0).2 hb
   exact ⟨t, cs, ht, hB.keep uS (fun e => (hp.hbx hx0).1 (.inr e))⟩
 have hnx : 0 < xs.length → ¬ TP (FX (FX (FA mb pb sb) bk17) (w284.heap.size + 1)) pb w284 bx := fun h => by
   have h6 := hp.legs.lt h
   rintro (q | ⟨q, cs, hb⟩)
   · exact q.elim (fun q => q.elim (hp.hbx h).1 (fun e => by omega)) (fun e => by omega)
   · obtain ⟨t, cs', ht, hb'⟩ := hbxR q
     exact TP.not (F := F0) (fun h => h) hb' ht (.inr ⟨q, cs, hb⟩)
 have B291 := (((((((B4.kx u10).kx u15).kx u20).kx u24).keep u254 (by omega)).kx u276).kx u285)
 have nTb290 : ¬ TP (FX (FX (FA mb pb sb) bk17) (w284.heap.size + 1)) pb w284 bk2 := TP.not (fun h => h.elim (fun h => h.elim (fun h => by have := (hFAl _ h).2; omega) (fun e => by omega)) (fun e => by omega)) B291 (by decide)
 have B293 := ((((((B9.kx u15).kx u20).kx u24).keep u254 (by omega)).kx u276).kx u285)
 have nTb292 : ¬ TP (FX (FX (FA mb pb sb) bk17) (w284.heap.size + 1)) pb w284 bk7 := TP.not (fun h => h.elim (fun h => h.elim (fun h => by have := (hFAl _ h).2; omega) (fun e => by omega)) (fun e => by omega)) B293 (by decide)
 have B295 := ((B259.kx u276).kx u285)
 have nTb294 : ¬ TP (FX (FX (FA mb pb sb) bk17) (w284.heap.size + 1)) pb w284 bk12 := TP.not (fun h => h.elim (fun h => h.elim (fun h => by have := (hFAl _ h).2; omega) (fun e => by omega)) (fun e => by omega)) B295 (by decide)
 have hFi : ∀ i, (FX (FX (FA mb pb sb) bk17) (w284.heap.size + 1)) i → pb ≤ i ∧ i < w284.heap.size + 2 := fun i h => h.elim (fun h => h.elim (fun h => ⟨(hFAl _ h).1, by have := (hFAl _ h).2; omega⟩) (fun e => ⟨by omega, by omega⟩)) (fun e => ⟨by omega, by omega⟩)
 have hFm : pb ≤ mb → (FX (FX (FA mb pb sb) bk17) (w284.heap.size + 1)) mb := fun h => .inl (.inl (.inl ⟨rfl, h⟩))
 have h6m : pb ≤ mb → mb ≠ bk17 := hrowR.row.acc.neBlk B288 (by decide)
 have hFB : ∀ i, (FX (FA mb pb sb) bk17) i → i < w284.heap.size := fun i h => h.elim (fun h => by have := (hFAl _ h).2; omega) (fun e => by omega)
 have lT7 := hT7.lt
 have lT5 := hT5.lt
 have lT4 := hT4.lt
 refine WC.weak [(3, .pointer (some ⟨bk2, 0, none⟩)), (4, .pointer (some ⟨bk7, 0, none⟩)), (5, .pointer (some ⟨bk12, 0, none⟩)), (6, .pointer (some ⟨bk17, 0, none⟩)), (29, .func (.func 111) #[] #[.pointer (some ⟨bT7, 0, none⟩), .pointer (some ⟨bT5, 0, none⟩), .pointer (some ⟨bT6, 0, none⟩), .pointer (some ⟨bT4, 0, none⟩)])] ⟨rfl, rfl, rfl, rfl, rfl, trivial⟩ (c_rangeL (γ := HT) (δ := Nat) (lb := [.pointer (some ⟨bT7, 0, none⟩), .pointer (some ⟨bT5, 0, none⟩), .pointer (some ⟨bT6, 0, none⟩), .pointer (some ⟨bT4, 0, none⟩)]) (enc := encHT) own111 rfl rfl (YT (FX (FX (FA mb pb sb) bk17) (w284.heap.size + 1)) pb c r am mb cm n (90 - 3 * xs0.length) w284.heap.size (AC (FX (FX (FA mb pb sb) bk17) (w284.heap.size + 1)) (fun t u => asgP r xs0 t.ms (rows.length + 1) u) (max up rows.length) mb pb sb bk17 rows w284)) (ZT (FX (FX (FA mb pb sb) bk17) (w284.heap.size + 1)) pb c r am mb cm n (AC (FX (FX (FA mb pb sb) bk17) (w284.heap.size + 1)) (fun t u => asgP r xs0 t.ms (rows.length + 1) u) (max up rows.length) mb pb sb bk17 rows w284)) (FT (FX (FX (FA mb pb sb) bk17) (w284.heap.size + 1)) pb c r am mb cm n (AF (FX (FX (FA mb pb sb) bk17) (w284.heap.size + 1)) (fun t u => asgP r xs0 t.ms (rows.length + 1) u) (max up rows.length) mb pb sb bk17 rows w284) id) (EX (FX (FX (FA mb pb sb) bk17) (w284.heap.size + 1)) (FX (FX (FA mb pb sb) bk17) (w284.heap.size + 1)) pb c r am mb cm n w284 (AC (FX (FX (FA mb pb sb) bk17) (w284.heap.size + 1)) (fun t u => asgP r xs0 t.ms (rows.length + 1) u) (max up rows.length) mb pb sb bk17 rows w284 (teamsP r (nth xs 0) (nth xs 0).h.toNat 0 [] 0 (ms.map HM.mb))) ms) (EX (FX (FX (FA mb pb sb) bk17) (w284.heap.size + 1)) F0 pb c r am mb cm n w284 (EndT (teamsP r (nth xs 0) (nth xs 0).h.toNat 0 [] 0 (ms.map HM.mb)) (AF (FX (FX (FA mb pb sb) bk17) (w284.heap.size + 1)) (fun t u => asgP r xs0 t.ms (rows.length + 1) u) (max up rows.length) mb pb sb bk17 rows w284)) (id ms)) (ZT.turned ((AC.bent (Nat.le_succ _)).turned (Nat.le_refl _)) (.inr rfl)) (FT.turned ((AF.bent (Nat.le_succ _)).turned (Nat.le_refl _)) (.inr rfl)) (EX.turned (fun _ => ((AC.bent (Nat.le_succ _)).turned (Nat.le_refl _)) _) (.inr rfl)) (EX.turned (EndT.turned ((AF.bent (Nat.le_succ _)).turned (Nat.le_refl _))) (.inr rfl)) ?_ (fun x d => [(3, .pointer (some ⟨bk2, 0, none⟩)), (4, .pointer (some ⟨bk7, 0, none⟩)), (5, .pointer (some ⟨bk12, 0, none⟩)), (6, .pointer (some ⟨bk17, 0, none⟩)), (7, .pointer (some ⟨d, 0, none⟩))]) (fun x d W => (Blk W d 166 [.slice x.ao x.nums.length x.cap, .int .i64 x.pl] ∧ w284.heap.size + 1 < d) ∧ YT (FX (FX (FA mb pb sb) bk17) (w284.heap.size + 1)) pb c r am mb cm n (90 - 3 * xs0.length) w284.heap.size (AC (FX (FX (FA mb pb sb) bk17) (w284.heap.size + 1)) (fun t u => asgP r xs0 t.ms (rows.length + 1) u) (max up rows.length) mb pb sb bk17 rows w284) x W) (fun d x W W' h hl u => ⟨⟨h.1.1.keep u (h.1.1.notLoop hl), h.1.2⟩, YT.turned ((AC.bent (Nat.le_succ _)).turned (Nat.le_refl _)) _ _ _ h.2 hl u⟩) ?_ ?_ ?_ ?_)
 ·
  intro l_ D_ R_ Rf_ W hD_ hl_ hsz hE1 hH_ hR_
  subst hD_ hl_
  refine (teams1_c r (nth xs 0) pb c am mb cm n (90 - 3 * xs0.length) (nth xs 0).h.toNat (FX (FX (FA mb pb sb) bk17) (w284.heap.size + 1)) _ w284.heap.size (AC (FX (FX (FA mb pb sb) bk17) (w284.heap.size + 1)) (fun t u => asgP r xs0 t.ms (rows.length + 1) u) (max up rows.length) mb pb sb bk17 rows w284) (AF (FX (FX (FA mb pb sb) bk17) (w284.heap.size + 1)) (fun t u => asgP r xs0 t.ms (rows.length + 1) u) (max up rows.length) mb pb sb bk17 rows w284) R_ Rf_ id bT7 bT5 bT6 bT4 0 [] none 0 0 0 ms W ⟨hp.hr, hp.hxs _ (nth_mem hx0), AC.mb hp.hsm h6m hFm, AF.mb hp.hsm h6m hFm, AC.bent (by omega), AF.bent (by omega), hH_, hT7.kx hE1, hT5.kx hE1, hT6.kx hE1, hT4.kx hE1, ?_, Acc.nil _ _ _ _ _ (by omega) (by omega), fun h => by omega, fun i h => ⟨(hFi i h).1, by have := (hFi i h).2; omega⟩, (fun h => h.elim (fun h => h.elim (fun h => by have := (hFAl _ h).2; omega) (fun e => by omega)) (fun e => by omega)), (fun h => h.elim (fun h => h.elim (fun h => by have := (hFAl _ h).2; omega) (fun e => by omega)) (fun e => by omega)), (fun h => h.elim (fun h => h.elim (fun h => by have := (hFAl _ h).2; omega) (fun e => by omega)) (fun e => by omega)), ?_, .inr rfl, hFm, rfl, by omega, ⟨hpb.1, by omega⟩, ?_, ?_, by omega, hn6, ⟨by decide, by decide⟩, ⟨⟨_, ap, gp, cp, rfl, B289.kx hE1, hplR.ext hE1⟩, B288.kx hE1, hE1.to⟩, hR_, fun _ => rfl, fun _ _ _ _ => rfl⟩).mono fun _ w9 h9 => ?_
  · exact (hrowR.mono fun m hm hb hg => hg.elim (fun hg => hg.elim id (fun e => absurd e ((hrowR.row.mem m hm).ht.neBlk B288 (by decide) hb))) (fun e => by have := (hrowR.row.mem m hm).ht.lt; omega)).ext hE1
  · exact fun h => h.elim (fun h => h.elim (fun h => h.elim (fun h => hp.hcm (h.1 ▸ h.2) h.1) hp.hcs) (fun e => by omega)) (fun e => by omega)
  · show ((0 : Nat) : Int) + _ = _; omega
  · exact fun m hm => by have := hp.hB m hm; omega
  have h8 := (hE1.to (S := TP (FX (FX (FA mb pb sb) bk17) (w284.heap.size + 1)) pb w284)).next h9.2 (fun i hi h => TP.backE hE1 hi h)
  exact h9.1.elim (fun q => .inl ⟨⟨q.1, q.2.2, h8⟩, q.2.1⟩) (fun q => .inr ⟨⟨q.1, q.2.2, h8⟩, q.2.1⟩)
 ·
  intro lq x W K296 hI hK296
  change WC _ _ _ _ _ _ [(30, .agg #[.slice x.ao x.nums.length x.cap, .int .i64 x.pl]), (3, .pointer (some ⟨bk2, 0, none⟩)), (4, .pointer (some ⟨bk7, 0, none⟩)), (5, .pointer (some ⟨bk12, 0, none⟩)), (6, .pointer (some ⟨bk17, 0, none⟩)), (29, .func (.func 111) #[] #[.pointer (some ⟨bT7, 0, none⟩), .pointer (some ⟨bT5, 0, none⟩), .pointer (some ⟨bT6, 0, none⟩), .pointer (some ⟨bT4, 0, none⟩)])] _
  have E000 := Upd.refl (fun _ => False) W
  refine c_region (t_alloc (cs := [.slice none 0 0, .int .i64 0]) zeroValue166 rfl rfl rfl (fun bk297 w298 ebk297 sbk297 B299 u300 => ?_))
  have zu300 := u300.size
  refine t_st (vs := [.slice x.ao x.nums.length x.cap, .int .i64 x.pl]) sizeOf166 rfl rfl rfl B299 rfl rfl rfl rfl (fun w302 sw302 B304 u303 => ?_)
  have zu303 := u303.size
  have E305 := (E000.nx u300).next u303 (fun i hi h => by omega)
  have B304 : Blk w302 bk297 166 [.slice x.ao x.nums.length x.cap, .int .i64 x.pl] := B304
  refine t_nil' ?_
  exact hK296 bk297 _ _ ⟨rfl, rfl, rfl, rfl, rfl, trivial⟩ E305 ⟨⟨B304, by have := hI.hD; omega⟩, ⟨AC.mb hp.hsm h6m hFm _ _ _ hI.hc (Ext.to E305), hI.row.ext E305, hI.num.keep E305 (fun _ h => h), hI.nf, hI.len, hI.n3, by have := hI.hD; have := (E305).size; omega, hI.upd.nx E305⟩⟩
 ·
  intro lq x d w306 hY
  obtain ⟨⟨hbd, hdg⟩, hY⟩ := hY
  obtain ⟨u9, ap9, gp9, cp9, htr, hsb9, hpl9⟩ := hY.hc.ex
  have huR := hY.hc.hu
  have hdl := hbd.lt
  have hgl9 := hpl9.acc.lt
  have zhuR := huR.size
  have lt_gp9 := hpl9.acc.lt
  have hgsb : pb ≤ gp9 → gp9 ≠ sb := fun h e => hpl9.nf h (.inr e)
  have hxg : 0 < xs.length → ¬ (bx = gp9 ∧ pb ≤ bx) := fun h e => by
    obtain ⟨t, cs, ht, hB⟩ := hbxR e.2
    obtain ⟨cs9, h75⟩ := hpl9.acc.blkT (e.1 ▸ e.2)
    exact absurd e.1 ((hB.keep hY.hc.hu (hnx hx0)).neT h75 ht)
  have hFBs : (FX (FA mb pb sb) bk17) sb := .inl (.inr rfl)
  have hFB6 : (FX (FA mb pb sb) bk17) bk17 := .inr rfl
  have B309 := (B291.keep huR (show ¬ (TP (FX (FX (FA mb pb sb) bk17) (w284.heap.size + 1)) pb w284 bk2) by first | omega | assumption))
  have hgp308 : pb ≤ gp9 → gp9 ≠ bk2 := hpl9.acc.neBlk B309 (by decide)
  have B311 := (B293.keep huR (show ¬ (TP (FX (FX (FA mb pb sb) bk17) (w284.heap.size + 1)) pb w284 bk7) by first | omega | assumption))
  have hgp310 : pb ≤ gp9 → gp9 ≠ bk7 := hpl9.acc.neBlk B311 (by decide)
  have B313 := (B295.keep huR (show ¬ (TP (FX (FX (FA mb pb sb) bk17) (w284.heap.size + 1)) pb w284 bk12) by first | omega | assumption))
  have hgp312 : pb ≤ gp9 → gp9 ≠ bk12 := hpl9.acc.neBlk B313 (by decide)
  have hgp314 : pb ≤ gp9 → gp9 ≠ bk17 := hpl9.acc.neBlk hY.hc.b6 (by decide)
  have hgp315 : pb ≤ gp9 → gp9 ≠ d := hpl9.acc.neBlk hbd (by decide)
  change WC _ _ _ _ _ _ [(3, .pointer (some ⟨bk2, 0, none⟩)), (4, .pointer (some ⟨bk7, 0, none⟩)), (5, .pointer (some ⟨bk12, 0, none⟩)), (6, .pointer (some ⟨bk17, 0, none⟩)), (7, .pointer (some ⟨d, 0, none⟩))] _
  have hcellsR := (TP.cellsB (F := (FX (FA mb pb sb) bk17)) (pb := pb) (B := w284.heap.size) (w := w306) hFB)
  refine c_block (c_seq fun K316 hK316 => (c_drawnM follows (fun i => (i = gp9 ∧ pb ≤ i) ∨ i = sb) (.look 0 (.look 1 (.look 2 (.look 3 (.look 5 (.look 6 (.act 4 (.act 7 (.act 8 (.look 9 (.look 10 (.act 11 .done .stop))) .stop) .stop) (.act 7 (.act 4 (.act 8 (.look 9 (.look 10 (.act 11 .done .stop))) .stop) .stop) .stop)))))))) (by kernel_rfl) fun w317 u318 => ?_))
  have zu318 := u318.size
  have B320 := (B311.kx u318)
  refine y_load isAgg120 rfl rfl rfl (B320.get rfl) (by show ¬ ((bk7 = gp9 ∧ pb ≤ bk7) ∨ bk7 = sb); first | omega | assumption) (y_load isAgg120 rfl rfl rfl (B320.get rfl) (by show ¬ ((bk7 = gp9 ∧ pb ≤ bk7) ∨ bk7 = sb); first | omega | assumption) (y_nilchk rfl rfl rfl (y_field underlying122 rfl sizeOf56 (0) rfl rfl rfl rfl (y_field underlying166 rfl sizeOf60 (0) rfl rfl rfl rfl ?_))))
  have B321 := (hbd.kx u318)
  refine y_load isAgg60 rfl rfl rfl (B321.get rfl) (by show ¬ ((d = gp9 ∧ pb ≤ d) ∨ d = sb); first | omega | assumption) (s_or ?_ ?_)
  ·
   refine s_do ?_
   have B322 := (hsb9.kx u318)
   refine t_load isAgg56 rfl rfl rfl (B322.get rfl) (s_next (Upd.refl _ _) (s_do (t_bslice (ps := [(0, .slice x.ao x.nums.length x.cap)]) (cs := [.slice x.ao x.nums.length x.cap]) (e := 60) rfl rfl ⟨rfl, rfl⟩ (fun w => by kernel_rfl) (fun bk323 w324 ebk323 sbk323 B325 u326 => ?_))))
   have zu326 := u326.size
   refine s_next ((Upd.refl _ _).nx u326) (s_do ?_)
   have D328 := ((hpl9.acc.kE u318).kE u326)
   refine t_append (z := .slice none 0 0) (bytes := 24) (k := 1) (base := pb) (HT.hr x) underlying56 (by kernel_rfl) rfl (by decide) (fun _ => rfl) (by intro x; simp [encHR, Value.oneCell']) rfl rfl rfl rfl D328 B325 (by omega) (by omega) (by decide) (fun ao329 gb330 cp331 w332 A333 u334 gegb330 lngb330 => ?_)
   have zu334 := u334.size
   have lt_gb330 := A333.lt
   refine s_next ((Upd.refl _ _).next u334 (fun i hi (h : (i = gp9 ∧ pb ≤ i)) => show w317.heap.size ≤ i ∨ ((i = gp9 ∧ pb ≤ i) ∨ i = sb) by first | omega | exact .inr h)) (y_nilchk rfl rfl rfl (y_field underlying122 rfl sizeOf56 (0) rfl rfl rfl rfl (s_do ?_)))
   have B336 := ((B322.kx u326).keep u334 (by omega))
   refine t_st (vs := [.slice ao329 (((rows ++ [(HT.hr x)])).length) cp331]) sizeOf56 rfl rfl rfl B336 rfl rfl rfl rfl (fun w337 sw337 B339 u338 => ?_)
   have zu338 := u338.size
   have B339 : Blk w337 sb 122 [.slice ao329 (((rows ++ [(HT.hr x)])).length) cp331, .int .i64 (u9 : Int)] := B339
   refine s_next ((Upd.refl _ _).next u338 (fun i hi (h : i = sb) => show w317.heap.size ≤ i ∨ ((i = gp9 ∧ pb ≤ i) ∨ i = sb) by first | omega | exact .inr h)) (s_nil (hK316 _ _ (c_seq fun K341 hK341 => (c_seq fun K342 hK342 => ?_))))
   have B344 := ((((B309.kx u318).kx u326).keep u334 (by omega)).keep u338 (by omega))
   have nTb343 : ¬ TQ (FA mb pb sb) pb w337 bk2 := TQ.not (Upd.refl _ _) (fun h => by have := (hFAl _ h).2; omega) (by omega) B344 (by decide)
   have B346 := ((((B311.kx u318).kx u326).keep u334 (by omega)).keep u338 (by omega))
   have nTb345 : ¬ TQ (FA mb pb sb) pb w337 bk7 := TQ.not (Upd.refl _ _) (fun h => by have := (hFAl _ h).2; omega) (by omega) B346 (by decide)
   have B348 := ((((B313.kx u318).kx u326).keep u334 (by omega)).keep u338 (by omega))
   have nTb347 : ¬ TQ (FA mb pb sb) pb w337 bk12 := TQ.not (Upd.refl _ _) (fun h => by have := (hFAl _ h).2; omega) (by omega) B348 (by decide)
   have B350 := ((((hY.hc.b6.kx u318).kx u326).keep u334 (by omega)).keep u338 (by omega))
   have nTb349 : ¬ TQ (FA mb pb sb) pb w337 bk17 := TQ.not (Upd.refl _ _) (fun h => by have := (hFAl _ h).2; omega) (by omega) B350 (by decide)
   refine c_drawnM follows (fun i => TQ (FA mb pb sb) pb w337 i) (.look 0 (.look 1 (.look 2 (.look 3 (.act 4 .done .stop))))) (by kernel_rfl) fun w351 u352 => ?_
   have zu352 := u352.size
   have B354 := (B344.kx u352)
   refine y_load isAgg117 rfl rfl rfl (B354.get rfl) (by show ¬ (TQ (FA mb pb sb) pb w337 bk2); first | omega | assumption) ?_
   have B355 := (B346.kx u352)
   refine y_load isAgg120 rfl rfl rfl (B355.get rfl) (by show ¬ (TQ (FA mb pb sb) pb w337 bk7); first | omega | assumption) ?_
   have B356 := (B348.kx u352)
   refine y_load isAgg55 rfl rfl rfl (B356.get rfl) (by show ¬ (TQ (FA mb pb sb) pb w337 bk12); first | omega | assumption) (y_sliceFrom (1) underlying55 sizeOf68 rfl rfl rfl rfl rfl (by omega) hp.hcx (y_same 45 (v := .slice (subAddr ax cx 1 7) xs0.length (cx - 1)) rfl (by rw [hxl]; rfl) (s_do ?_)))
   have uQ : Upd (TP (fun i => i = sb) pb w306) w306 w351 := ((((((Upd.refl (TP (fun i => i = sb) pb w306) _).nx u318).nx u326).next u334 (fun i hi h => .inr ⟨h.2, h.1 ▸ hpl9.acc.blkT (h.1 ▸ h.2)⟩)).next u338 (fun i hi h => .inl h)).nx u352)
   have uPB : Upd (TP (FX (FA mb pb sb) bk17) pb w306) w306 w337 := ((((((Upd.refl (TP (fun i => i = sb) pb w306) _).nx u318).nx u326).next u334 (fun i hi h => .inr ⟨h.2, h.1 ▸ hpl9.acc.blkT (h.1 ▸ h.2)⟩)).next u338 (fun i hi h => .inl h))).mono (fun i h => h.elim (fun h => .inl (.inl (.inr h))) .inr)
   have B357 := (B339.kx u352)
   have D358 := ((A333.keep u338 (fun hb => show ¬ (gb330 = sb) by first | omega | assumption)).kE u352)
   have D359 := (((((((D280.kE u285).keep huR (fun h9 => by show ¬ (TP (FX (FX (FA mb pb sb) bk17) (w284.heap.size + 1)) pb w284 bx); have h8 := (hp.hbx h9).1; have h7 := hp.legs.lt h9; first | omega | exact fun e => h8 (.inr e) | exact hnx h9 | exact hxg h9)).kE u318).kE u326).keep u334 (fun h9 => by show ¬ ((bx = gp9 ∧ pb ≤ bx)); have h8 := (hp.hbx h9).1; have h7 := hp.legs.lt h9; first | omega | exact fun e => h8 (.inr e) | exact hnx h9 | exact hxg h9)).keep u338 (fun h9 => by show ¬ (bx = sb); have h8 := (hp.hbx h9).1; have h7 := hp.legs.lt h9; first | omega | exact fun e => h8 (.inr e) | exact hnx h9 | exact hxg h9)).kE u352)
   have hrowQ : RowC (FA mb pb sb) pb c r am mb cm n x.hm w351 := (hY.row.mono fun m hm hb hf => .inl (.inl hf)).tpS hp.hsm hp.hcs (.inr rfl) hsb uQ
   have hplQ : PlanM (FA mb pb sb) pb w351 ao329 gb330 cp331 (rows ++ [HT.hr x]) := hpl9.push (.inr rfl) uQ D358 (fun hb hf => by
     rcases (show gb330 = gp9 ∨ w0.heap.size ≤ gb330 by omega) with e | e
     · exact hpl9.nf (e ▸ hb) (e ▸ hf)
     · have := (hFAl _ hf).2; omega) hY.num (fun hb hf => hY.nf hb (.inl (.inl hf)))
   have hx1 : Sl encLeg 7 w351 (subAddr ax cx 1 7) bx (ox + 1 * 7) xs0 := by
     have h := (D359).sub cx 1 xs0.length hp.hcx
     rwa [hd1, List.take_length] at h
   have hbx1 : 0 < xs0.length → ¬ (FA mb pb sb) bx ∧ (pb ≤ bx → ∃ t cs, t ≠ 60 ∧ Blk w351 bx t cs) := fun _ => ⟨(hp.hbx hx0).1, fun hb => by
     obtain ⟨t, cs, ht, hB⟩ := hbxR hb
     have h8 := hB.keep hY.hc.hu (hnx hx0)
     exact ⟨t, cs, ht, h8.keep uQ (TP.not (fun e => (hp.hbx hx0).1 (.inr e)) h8 ht)⟩⟩
   refine t_call own58 rfl rfl rfl rfl ((ih x0 xs0 hxe r pb c am mb cm n sb _ bx _ _ x.hm _ ao329 gb330 cp331 u9 _ ⟨hp.hr, fun y hy => hp.hxs y (by rw [hxe]; exact List.mem_cons_of_mem _ hy), fun m hm => by have := hY.len m hm; have := hp.hB; omega, hx1, by have := hp.hcx; omega, hbx1, B357, hplQ, hrowQ, hp.hcm, hp.hcs, hsb, hp.hsm, hn6, by rw [List.length_append, List.length_singleton]; omega, ⟨hpb.1, by omega⟩⟩).mono fun _ _ h => AsgR.t h u352) (fun v360 w361 r363 => ?_)
   obtain ⟨rfl, ⟨rows2, ap2, gp2, cp2, hsb2, hpl2, hno2, hso2⟩, hrow2, u362⟩ := r363
   have zu362 := u362.size
   have hA9 : (asgP r xs0 (x.hm.map HM.mb) (rows ++ [HT.hr x]).length u9) = asgP r xs0 (x.hm.map HM.mb) (rows.length + 1) u9 := by rw [List.length_append]; rfl
   have B365 := ((B350.kx u352).keep u362 (show ¬ (TQ (FA mb pb sb) pb w337 bk17) by first | omega | assumption))
   have h6A := B365
   refine s_next ((Upd.refl _ _).next u362 (fun i hi (h : TQ (FA mb pb sb) pb w337 i) => show w351.heap.size ≤ i ∨ (TQ (FA mb pb sb) pb w337 i) by first | omega | exact .inr h)) (s_nil (hK342 _ _ (c_cond rfl (fun g46 => ?_) (fun g46 => ?_))))
   ·
    obtain ⟨q9, hq9⟩ := Option.isSome_iff_exists.1 g46
    refine c_seq fun K366 hK366 => (c_region (t_st (vs := [.bool true]) sizeOf4 rfl rfl rfl B365 rfl rfl rfl rfl (fun w367 sw367 B369 u368 => ?_)))
    have zu368 := u368.size
    have B369 : Blk w367 bk17 4 [.bool true] := B369
    refine t_nil' (hK366 _ _ (c_ret ?_))
    have hUr := ((((((((Upd.refl (fun i => TP (FX (FA mb pb sb) bk17) pb w306 i) w306).nx u318).nx u326).next u334 (fun i hi (h : (i = gp9 ∧ pb ≤ i)) => show TP (FX (FA mb pb sb) bk17) pb w306 i by first | omega | assumption | exact TP.back (by assumption) hi h | exact TP.back (by assumption) hi (TP.unfx h (by omega)) | exact Or.inl (by rw [h]; assumption) | exact h.elim (fun h => TP.back uPB hi h.fx) (fun h => by omega) | exact Or.inr ⟨h.2, h.1 ▸ hpl9.acc.blkT (h.1 ▸ h.2)⟩)).next u338 (fun i hi (h : i = sb) => show TP (FX (FA mb pb sb) bk17) pb w306 i by first | omega | assumption | exact TP.back (by assumption) hi h | exact TP.back (by assumption) hi (TP.unfx h (by omega)) | exact Or.inl (by rw [h]; assumption) | exact h.elim (fun h => TP.back uPB hi h.fx) (fun h => by omega) | exact Or.inr ⟨h.2, h.1 ▸ hpl9.acc.blkT (h.1 ▸ h.2)⟩)).nx u352).next u362 (fun i hi (h : TQ (FA mb pb sb) pb w337 i) => show TP (FX (FA mb pb sb) bk17) pb w306 i by first | omega | assumption | exact TP.back (by assumption) hi h | exact TP.back (by assumption) hi (TP.unfx h (by omega)) | exact Or.inl (by rw [h]; assumption) | exact h.elim (fun h => TP.back uPB hi h.fx) (fun h => by omega) | exact Or.inr ⟨h.2, h.1 ▸ hpl9.acc.blkT (h.1 ▸ h.2)⟩)).next u368 (fun i hi (h : i = bk17) => show TP (FX (FA mb pb sb) bk17) pb w306 i by first | omega | assumption | exact TP.back (by assumption) hi h | exact TP.back (by assumption) hi (TP.unfx h (by omega)) | exact Or.inl (by rw [h]; assumption) | exact h.elim (fun h => TP.back uPB hi h.fx) (fun h => by omega) | exact Or.inr ⟨h.2, h.1 ▸ hpl9.acc.blkT (h.1 ▸ h.2)⟩))
    have uW : Upd (TP (FX (FX (FA mb pb sb) bk17) (w284.heap.size + 1)) pb w306) _ _ := hUr.mono (fun i h => h.fx)
    have B371 := (hsb2.keep u368 (by omega))
    have uT : Upd (· = bk17) w361 w367 := ((Upd.refl (· = bk17) _).next u368 (fun i hi h => h))
    exact fun a ha => ⟨KeepsFrom.of_updB hUr hcellsR, (⟨⟨⟨_, _, q9, _, _, _, _, htr, (by show asgP r xs0 (x.hm.map HM.mb) (rows.length + 1) u9 = _; rw [← hA9]; exact Prod.ext hq9 rfl), B371, hpl2.up6 h6A uT, by rw [hso2 q9 hq9, List.map_append, List.append_assoc]; rfl⟩, B369, hY.hc.hu.next uW (fun i hi h => TP.back hY.hc.hu hi h)⟩, (hrow2.up6 h6A (by omega) uT).f0, (hY.upd.mono fun i e => .inl (.inr e)).next uW (fun i hi h => TP.back (hY.upd.mono fun i e => .inl (.inr e)) hi h)⟩ : FT (FX (FX (FA mb pb sb) bk17) (w284.heap.size + 1)) pb c r am mb cm n (AF (FX (FX (FA mb pb sb) bk17) (w284.heap.size + 1)) (fun t u => asgP r xs0 t.ms (rows.length + 1) u) (max up rows.length) mb pb sb bk17 rows w284) id x _)⟩
   have hq9 := Option.not_isSome_iff_eq_none.1 (fun h => by rw [h] at g46; cases g46)
   have hr2 := hno2 hq9
   rw [hr2] at hsb2 hpl2
   have lt_gp2 := hpl2.acc.lt
   refine c_skip (hK341 _ _ (c_drawnM follows (fun i => i = sb) (.look 0 (.look 1 (.look 2 (.look 3 (.look 5 (.look 6 (.look 7 (.act 4 (.act 8 (.look 9 (.look 10 (.look 11 (.look 12 (.look 13 (.act 14 .done .stop)))))) .stop) (.act 8 (.look 9 (.look 10 (.act 4 (.look 11 (.look 12 (.look 13 (.act 14 .done .stop)))) .stop))) .stop))))))))) (by kernel_rfl) fun w372 u373 => ?_))
   have zu373 := u373.size
   have B375 := (((B346.kx u352).keep u362 (show ¬ (TQ (FA mb pb sb) pb w337 bk7) by first | omega | assumption)).kx u373)
   refine y_load isAgg120 rfl rfl rfl (B375.get rfl) (by show ¬ (bk7 = sb); first | omega | assumption) (y_load isAgg120 rfl rfl rfl (B375.get rfl) (by show ¬ (bk7 = sb); first | omega | assumption) (y_nilchk rfl rfl rfl (y_field underlying122 rfl sizeOf56 (0) rfl rfl rfl rfl (y_load isAgg120 rfl rfl rfl (B375.get rfl) (by show ¬ (bk7 = sb); first | omega | assumption) (y_nilchk rfl rfl rfl (y_field underlying122 rfl sizeOf56 (0) rfl rfl rfl rfl (s_or ?_ ?_)))))))
   ·
    refine s_do ?_
    have B376 := (hsb2.kx u373)
    refine t_load isAgg56 rfl rfl rfl (B376.get rfl) (s_next (Upd.refl _ _) (s_do (t_load isAgg56 rfl rfl rfl (B376.get rfl) (s_next (Upd.refl _ _) (y_len underlying56 rfl rfl rfl rfl (y_ari rfl rfl rfl rfl rfl (by omega) (y_sliceTo (rows.length) underlying56 sizeOf60 rfl rfl rfl rfl (by rw [List.length_append, List.length_singleton]; omega) (by have := hpl2.acc.cap_le; rw [List.length_append, List.length_singleton] at this; omega) (y_same 58 (v := .slice ap2 rows.length cp2) rfl (by rw [hpl2.acc.sub0 (by simp)]) (y_nilchk rfl rfl rfl (y_field underlying122 rfl sizeOf56 (0) rfl rfl rfl rfl (s_do (t_st (vs := [.slice ap2 rows.length cp2]) sizeOf56 rfl rfl rfl B376 rfl rfl rfl rfl (fun w377 sw377 B379 u378 => ?_)))))))))))))
    have zu378 := u378.size
    have B379 : Blk w377 sb 122 [.slice ap2 rows.length cp2, .int .i64 ((asgP r xs0 (x.hm.map HM.mb) (rows ++ [HT.hr x]).length u9).2 : Int)] := B379
    refine s_next ((Upd.refl _ _).next u378 (fun i hi (h : i = sb) => show w372.heap.size ≤ i ∨ (i = sb) by first | omega | exact .inr h)) (s_nil ?_)
    have hUr := (((((((((Upd.refl (fun i => TP (FX (FA mb pb sb) bk17) pb w306 i) w306).nx u318).nx u326).next u334 (fun i hi (h : (i = gp9 ∧ pb ≤ i)) => show TP (FX (FA mb pb sb) bk17) pb w306 i by first | omega | assumption | exact TP.back (by assumption) hi h | exact TP.back (by assumption) hi (TP.unfx h (by omega)) | exact Or.inl (by rw [h]; assumption) | exact h.elim (fun h => TP.back uPB hi h.fx) (fun h => by omega) | exact Or.inr ⟨h.2, h.1 ▸ hpl9.acc.blkT (h.1 ▸ h.2)⟩)).next u338 (fun i hi (h : i = sb) => show TP (FX (FA mb pb sb) bk17) pb w306 i by first | omega | assumption | exact TP.back (by assumption) hi h | exact TP.back (by assumption) hi (TP.unfx h (by omega)) | exact Or.inl (by rw [h]; assumption) | exact h.elim (fun h => TP.back uPB hi h.fx) (fun h => by omega) | exact Or.inr ⟨h.2, h.1 ▸ hpl9.acc.blkT (h.1 ▸ h.2)⟩)).nx u352).next u362 (fun i hi (h : TQ (FA mb pb sb) pb w337 i) => show TP (FX (FA mb pb sb) bk17) pb w306 i by first | omega | assumption | exact TP.back (by assumption) hi h | exact TP.back (by assumption) hi (TP.unfx h (by omega)) | exact Or.inl (by rw [h]; assumption) | exact h.elim (fun h => TP.back uPB hi h.fx) (fun h => by omega) | exact Or.inr ⟨h.2, h.1 ▸ hpl9.acc.blkT (h.1 ▸ h.2)⟩)).nx u373).next u378 (fun i hi (h : i = sb) => show TP (FX (FA mb pb sb) bk17) pb w306 i by first | omega | assumption | exact TP.back (by assumption) hi h | exact TP.back (by assumption) hi (TP.unfx h (by omega)) | exact Or.inl (by rw [h]; assumption) | exact h.elim (fun h => TP.back uPB hi h.fx) (fun h => by omega) | exact Or.inr ⟨h.2, h.1 ▸ hpl9.acc.blkT (h.1 ▸ h.2)⟩))
    have uW : Upd (TP (FX (FX (FA mb pb sb) bk17) (w284.heap.size + 1)) pb w306) _ _ := hUr.mono (fun i h => h.fx)
    have B381 := ((B365.kx u373).keep u378 (by omega))
    have uT : Upd (· = sb) w361 w377 := (((Upd.refl (· = sb) _).nx u373).next u378 (fun i hi h => h))
    exact fun a ha => ⟨KeepsFrom.of_updB hUr hcellsR, (⟨⟨⟨_, _, _, _, tryF_step htr (by show asgP r xs0 (x.hm.map HM.mb) (rows.length + 1) u9 = _; rw [← hA9]; exact Prod.ext hq9 rfl), B379, hpl2.pop.upd uT (fun hb e => hpl2.nf hb (.inr e)) (fun q hq hb e => hpl2.pop.mf q hq hb (.inr e))⟩, B381, hY.hc.hu.next uW (fun i hi h => TP.back hY.hc.hu hi h)⟩, (hrow2.tpS hp.hsm hp.hcs (.inr rfl) hsb (uT.mono fun i e => .inl e)).toF hY.row.row, (hY.upd.mono fun i e => .inl (.inr e)).next uW (fun i hi h => TP.back (hY.upd.mono fun i e => .inl (.inr e)) hi h)⟩ : ZT (FX (FX (FA mb pb sb) bk17) (w284.heap.size + 1)) pb c r am mb cm n (AC (FX (FX (FA mb pb sb) bk17) (w284.heap.size + 1)) (fun t u => asgP r xs0 t.ms (rows.length + 1) u) (max up rows.length) mb pb sb bk17 rows w284) x _)⟩
   refine s_do ?_
   have B382 := (hsb2.kx u373)
   refine t_load isAgg56 rfl rfl rfl (B382.get rfl) (s_next (Upd.refl _ _) (y_len underlying56 rfl rfl rfl rfl (y_ari rfl rfl rfl rfl rfl (by omega) (s_do (t_load isAgg56 rfl rfl rfl (B382.get rfl) (s_next (Upd.refl _ _) (y_sliceTo (rows.length) underlying56 sizeOf60 rfl rfl rfl rfl (by rw [List.length_append, List.length_singleton]; omega) (by have := hpl2.acc.cap_le; rw [List.length_append, List.length_singleton] at this; omega) (y_same 58 (v := .slice ap2 rows.length cp2) rfl (by rw [hpl2.acc.sub0 (by simp)]) (y_nilchk rfl rfl rfl (y_field underlying122 rfl sizeOf56 (0) rfl rfl rfl rfl (s_do (t_st (vs := [.slice ap2 rows.length cp2]) sizeOf56 rfl rfl rfl B382 rfl rfl rfl rfl (fun w383 sw383 B385 u384 => ?_)))))))))))))
   have zu384 := u384.size
   have B385 : Blk w383 sb 122 [.slice ap2 rows.length cp2, .int .i64 ((asgP r xs0 (x.hm.map HM.mb) (rows ++ [HT.hr x]).length u9).2 : Int)] := B385
   refine s_next ((Upd.refl _ _).next u384 (fun i hi (h : i = sb) => show w372.heap.size ≤ i ∨ (i = sb) by first | omega | exact .inr h)) (s_nil ?_)
   have hUr := (((((((((Upd.refl (fun i => TP (FX (FA mb pb sb) bk17) pb w306 i) w306).nx u318).nx u326).next u334 (fun i hi (h : (i = gp9 ∧ pb ≤ i)) => show TP (FX (FA mb pb sb) bk17) pb w306 i by first | omega | assumption | exact TP.back (by assumption) hi h | exact TP.back (by assumption) hi (TP.unfx h (by omega)) | exact Or.inl (by rw [h]; assumption) | exact h.elim (fun h => TP.back uPB hi h.fx) (fun h => by omega) | exact Or.inr ⟨h.2, h.1 ▸ hpl9.acc.blkT (h.1 ▸ h.2)⟩)).next u338 (fun i hi (h : i = sb) => show TP (FX (FA mb pb sb) bk17) pb w306 i by first | omega | assumption | exact TP.back (by assumption) hi h | exact TP.back (by assumption) hi (TP.unfx h (by omega)) | exact Or.inl (by rw [h]; assumption) | exact h.elim (fun h => TP.back uPB hi h.fx) (fun h => by omega) | exact Or.inr ⟨h.2, h.1 ▸ hpl9.acc.blkT (h.1 ▸ h.2)⟩)).nx u352).next u362 (fun i hi (h : TQ (FA mb pb sb) pb w337 i) => show TP (FX (FA mb pb sb) bk17) pb w306 i by first | omega | assumption | exact TP.back (by assumption) hi h | exact TP.back (by assumption) hi (TP.unfx h (by omega)) | exact Or.inl (by rw [h]; assumption) | exact h.elim (fun h => TP.back uPB hi h.fx) (fun h => by omega) | exact Or.inr ⟨h.2, h.1 ▸ hpl9.acc.blkT (h.1 ▸ h.2)⟩)).nx u373).next u384 (fun i hi (h : i = sb) => show TP (FX (FA mb pb sb) bk17) pb w306 i by first | omega | assumption | exact TP.back (by assumption) hi h | exact TP.back (by assumption) hi (TP.unfx h (by omega)) | exact Or.inl (by rw [h]; assumption) | exact h.elim (fun h => TP.back uPB hi h.fx) (fun h => by omega) | exact Or.inr ⟨h.2, h.1 ▸ hpl9.acc.blkT (h.1 ▸ h.2)⟩))
   have uW : Upd (TP (FX (FX (FA mb pb sb) bk17) (w284.heap.size + 1)) pb w306) _ _ := hUr.mono (fun i h => h.fx)
   have B387 := ((B365.kx u373).keep u384 (by omega))
   have uT : Upd (· = sb) w361 w383 := (((Upd.refl (· = sb) _).nx u373).next u384 (fun i hi h => h))
   exact fun a ha => ⟨KeepsFrom.of_updB hUr hcellsR, (⟨⟨⟨_, _, _, _, tryF_step htr (by show asgP r xs0 (x.hm.map HM.mb) (rows.length + 1) u9 = _; rw [← hA9]; exact Prod.ext hq9 rfl), B385, hpl2.pop.upd uT (fun hb e => hpl2.nf hb (.inr e)) (fun q hq hb e => hpl2.pop.mf q hq hb (.inr e))⟩, B387, hY.hc.hu.next uW (fun i hi h => TP.back hY.hc.hu hi h)⟩, (hrow2.tpS hp.hsm hp.hcs (.inr rfl) hsb (uT.mono fun i e => .inl e)).toF hY.row.row, (hY.upd.mono fun i e => .inl (.inr e)).next uW (fun i hi h => TP.back (hY.upd.mono fun i e => .inl (.inr e)) hi h)⟩ : ZT (FX (FX (FA mb pb sb) bk17) (w284.heap.size + 1)) pb c r am mb cm n (AC (FX (FX (FA mb pb sb) bk17) (w284.heap.size + 1)) (fun t u => asgP r xs0 t.ms (rows.length + 1) u) (max up rows.length) mb pb sb bk17 rows w284) x _)⟩
  refine s_do (t_bslice (ps := [(0, .slice x.ao x.nums.length x.cap)]) (cs := [.slice x.ao x.nums.length x.cap]) (e := 60) rfl rfl ⟨rfl, rfl⟩ (fun w => by kernel_rfl) (fun bk388 w389 ebk388 sbk388 B390 u391 => ?_))
  have zu391 := u391.size
  refine s_next ((Upd.refl _ _).nx u391) (s_do ?_)
  have B393 := ((hsb9.kx u318).kx u391)
  refine t_load isAgg56 rfl rfl rfl (B393.get rfl) (s_next (Upd.refl _ _) (s_do ?_))
  have D394 := ((hpl9.acc.kE u318).kE u391)
  refine t_append (z := .slice none 0 0) (bytes := 24) (k := 1) (base := pb) (HT.hr x) underlying56 (by kernel_rfl) rfl (by decide) (fun _ => rfl) (by intro x; simp [encHR, Value.oneCell']) rfl rfl rfl rfl D394 B390 (by omega) (by omega) (by decide) (fun ao395 gb396 cp397 w398 A399 u400 gegb396 lngb396 => ?_)
  have zu400 := u400.size
  have lt_gb396 := A399.lt
  refine s_next ((Upd.refl _ _).next u400 (fun i hi (h : (i = gp9 ∧ pb ≤ i)) => show w317.heap.size ≤ i ∨ ((i = gp9 ∧ pb ≤ i) ∨ i = sb) by first | omega | exact .inr h)) (y_nilchk rfl rfl rfl (y_field underlying122 rfl sizeOf56 (0) rfl rfl rfl rfl (s_do ?_)))
  have B402 := (B393.keep u400 (by omega))
  refine t_st (vs := [.slice ao395 (((rows ++ [(HT.hr x)])).length) cp397]) sizeOf56 rfl rfl rfl B402 rfl rfl rfl rfl (fun w403 sw403 B405 u404 => ?_)
  have zu404 := u404.size
  have B405 : Blk w403 sb 122 [.slice ao395 (((rows ++ [(HT.hr x)])).length) cp397, .int .i64 (u9 : Int)] := B405
  refine s_next ((Upd.refl _ _).next u404 (fun i hi (h : i = sb) => show w317.heap.size ≤ i ∨ ((i = gp9 ∧ pb ≤ i) ∨ i = sb) by first | omega | exact .inr h)) (s_nil (hK316 _ _ (c_seq fun K407 hK407 => (c_seq fun K408 hK408 => ?_))))
  have B410 := ((((B309.kx u318).kx u391).keep u400 (by omega)).keep u404 (by omega))
  have nTb409 : ¬ TQ (FA mb pb sb) pb w403 bk2 := TQ.not (Upd.refl _ _) (fun h => by have := (hFAl _ h).2; omega) (by omega) B410 (by decide)
  have B412 := ((((B311.kx u318).kx u391).keep u400 (by omega)).keep u404 (by omega))
  have nTb411 : ¬ TQ (FA mb pb sb) pb w403 bk7 := TQ.not (Upd.refl _ _) (fun h => by have := (hFAl _ h).2; omega) (by omega) B412 (by decide)
  have B414 := ((((B313.kx u318).kx u391).keep u400 (by omega)).keep u404 (by omega))
  have nTb413 : ¬ TQ (FA mb pb sb) pb w403 bk12 := TQ.not (Upd.refl _ _) (fun h => by have := (hFAl _ h).2; omega) (by omega) B414 (by decide)
  have B416 := ((((hY.hc.b6.kx u318).kx u391).keep u400 (by omega)).keep u404 (by omega))
  have nTb415 : ¬ TQ (FA mb pb sb) pb w403 bk17 := TQ.not (Upd.refl _ _) (fun h => by have := (hFAl _ h).2; omega) (by omega) B416 (by decide)
  refine c_drawnM follows (fun i => TQ (FA mb pb sb) pb w403 i) (.look 0 (.look 1 (.look 2 (.look 3 (.act 4 .done .stop))))) (by kernel_rfl) fun w417 u418 => ?_
  have zu418 := u418.size
  have B420 := (B410.kx u418)
  refine y_load isAgg117 rfl rfl rfl (B420.get rfl) (by show ¬ (TQ (FA mb pb sb) pb w403 bk2); first | omega | assumption) ?_
  have B421 := (B412.kx u418)
  refine y_load isAgg120 rfl rfl rfl (B421.get rfl) (by show ¬ (TQ (FA mb pb sb) pb w403 bk7); first | omega | assumption) ?_
  have B422 := (B414.kx u418)
  refine y_load isAgg55 rfl rfl rfl (B422.get rfl) (by show ¬ (TQ (FA mb pb sb) pb w403 bk12); first | omega | assumption) (y_sliceFrom (1) underlying55 sizeOf68 rfl rfl rfl rfl rfl (by omega) hp.hcx (y_same 45 (v := .slice (subAddr ax cx 1 7) xs0.length (cx - 1)) rfl (by rw [hxl]; rfl) (s_do ?_)))
  have uQ : Upd (TP (fun i => i = sb) pb w306) w306 w417 := ((((((Upd.refl (TP (fun i => i = sb) pb w306) _).nx u318).nx u391).next u400 (fun i hi h => .inr ⟨h.2, h.1 ▸ hpl9.acc.blkT (h.1 ▸ h.2)⟩)).next u404 (fun i hi h => .inl h)).nx u418)
  have uPB : Upd (TP (FX (FA mb pb sb) bk17) pb w306) w306 w403 := ((((((Upd.refl (TP (fun i => i = sb) pb w306) _).nx u318).nx u391).next u400 (fun i hi h => .inr ⟨h.2, h.1 ▸ hpl9.acc.blkT (h.1 ▸ h.2)⟩)).next u404 (fun i hi h => .inl h))).mono (fun i h => h.elim (fun h => .inl (.inl (.inr h))) .inr)
  have B423 := (B405.kx u418)
  have D424 := ((A399.keep u404 (fun hb => show ¬ (gb396 = sb) by first | omega | assumption)).kE u418)
  have D425 := (((((((D280.kE u285).keep huR (fun h9 => by show ¬ (TP (FX (FX (FA mb pb sb) bk17) (w284.heap.size + 1)) pb w284 bx); have h8 := (hp.hbx h9).1; have h7 := hp.legs.lt h9; first | omega | exact fun e => h8 (.inr e) | exact hnx h9 | exact hxg h9)).kE u318).kE u391).keep u400 (fun h9 => by show ¬ ((bx = gp9 ∧ pb ≤ bx)); have h8 := (hp.hbx h9).1; have h7 := hp.legs.lt h9; first | omega | exact fun e => h8 (.inr e) | exact hnx h9 | exact hxg h9)).keep u404 (fun h9 => by show ¬ (bx = sb); have h8 := (hp.hbx h9).1; have h7 := hp.legs.lt h9; first | omega | exact fun e => h8 (.inr e) | exact hnx h9 | exact hxg h9)).kE u418)
  have hrowQ : RowC (FA mb pb sb) pb c r am mb cm n x.hm w417 := (hY.row.mono fun m hm hb hf => .inl (.inl hf)).tpS hp.hsm hp.hcs (.inr rfl) hsb uQ
  have hplQ : PlanM (FA mb pb sb) pb w417 ao395 gb396 cp397 (rows ++ [HT.hr x]) := hpl9.push (.inr rfl) uQ D424 (fun hb hf => by
    rcases (show gb396 = gp9 ∨ w0.heap.size ≤ gb396 by omega) with e | e
    · exact hpl9.nf (e ▸ hb) (e ▸ hf)
    · have := (hFAl _ hf).2; omega) hY.num (fun hb hf => hY.nf hb (.inl (.inl hf)))
  have hx1 : Sl encLeg 7 w417 (subAddr ax cx 1 7) bx (ox + 1 * 7) xs0 := by
    have h := (D425).sub cx 1 xs0.length hp.hcx
    rwa [hd1, List.take_length] at h
  have hbx1 : 0 < xs0.length → ¬ (FA mb pb sb) bx ∧ (pb ≤ bx → ∃ t cs, t ≠ 60 ∧ Blk w417 bx t cs) := fun _ => ⟨(hp.hbx hx0).1, fun hb => by
    obtain ⟨t, cs, ht, hB⟩ := hbxR hb
    have h8 := hB.keep hY.hc.hu (hnx hx0)
    exact ⟨t, cs, ht, h8.keep uQ (TP.not (fun e => (hp.hbx hx0).1 (.inr e)) h8 ht)⟩⟩
  refine t_call own58 rfl rfl rfl rfl ((ih x0 xs0 hxe r pb c am mb cm n sb _ bx _ _ x.hm _ ao395 gb396 cp397 u9 _ ⟨hp.hr, fun y hy => hp.hxs y (by rw [hxe]; exact List.mem_cons_of_mem _ hy), fun m hm => by have := hY.len m hm; have := hp.hB; omega, hx1, by have := hp.hcx; omega, hbx1, B423, hplQ, hrowQ, hp.hcm, hp.hcs, hsb, hp.hsm, hn6, by rw [List.length_append, List.length_singleton]; omega, ⟨hpb.1, by omega⟩⟩).mono fun _ _ h => AsgR.t h u418) (fun v426 w427 r429 => ?_)
  obtain ⟨rfl, ⟨rows2, ap2, gp2, cp2, hsb2, hpl2, hno2, hso2⟩, hrow2, u428⟩ := r429
  have zu428 := u428.size
  have hA9 : (asgP r xs0 (x.hm.map HM.mb) (rows ++ [HT.hr x]).length u9) = asgP r xs0 (x.hm.map HM.mb) (rows.length + 1) u9 := by rw [List.length_append]; rfl
  have B431 := ((B416.kx u418).keep u428 (show ¬ (TQ (FA mb pb sb) pb w403 bk17) by first | omega | assumption))
  have h6A := B431
  refine s_next ((Upd.refl _ _).next u428 (fun i hi (h : TQ (FA mb pb sb) pb w403 i) => show w417.heap.size ≤ i ∨ (TQ (FA mb pb sb) pb w403 i) by first | omega | exact .inr h)) (s_nil (hK408 _ _ (c_cond rfl (fun g46 => ?_) (fun g46 => ?_))))
  ·
   obtain ⟨q9, hq9⟩ := Option.isSome_iff_exists.1 g46
   refine c_seq fun K432 hK432 => (c_region (t_st (vs := [.bool true]) sizeOf4 rfl rfl rfl B431 rfl rfl rfl rfl (fun w433 sw433 B435 u434 => ?_)))
   have zu434 := u434.size
   have B435 : Blk w433 bk17 4 [.bool true] := B435
   refine t_nil' (hK432 _ _ (c_ret ?_))
   have hUr := ((((((((Upd.refl (fun i => TP (FX (FA mb pb sb) bk17) pb w306 i) w306).nx u318).nx u391).next u400 (fun i hi (h : (i = gp9 ∧ pb ≤ i)) => show TP (FX (FA mb pb sb) bk17) pb w306 i by first | omega | assumption | exact TP.back (by assumption) hi h | exact TP.back (by assumption) hi (TP.unfx h (by omega)) | exact Or.inl (by rw [h]; assumption) | exact h.elim (fun h => TP.back uPB hi h.fx) (fun h => by omega) | exact Or.inr ⟨h.2, h.1 ▸ hpl9.acc.blkT (h.1 ▸ h.2)⟩)).next u404 (fun i hi (h : i = sb) => show TP (FX (FA mb pb sb) bk17) pb w306 i by first | omega | assumption | exact TP.back (by assumption) hi h | exact TP.back (by assumption) hi (TP.unfx h (by omega)) | exact Or.inl (by rw [h]; assumption) | exact h.elim (fun h => TP.back uPB hi h.fx) (fun h => by omega) | exact Or.inr ⟨h.2, h.1 ▸ hpl9.acc.blkT (h.1 ▸ h.2)⟩)).nx u418).next u428 (fun i hi (h : TQ (FA mb pb sb) pb w403 i) => show TP (FX (FA mb pb sb) bk17) pb w306 i by first | omega | assumption | exact TP.back (by assumption) hi h | exact TP.back (by assumption) hi (TP.unfx h (by omega)) | exact Or.inl (by rw [h]; assumption) | exact h.elim (fun h => TP.back uPB hi h.fx) (fun h => by omega) | exact Or.inr ⟨h.2, h.1 ▸ hpl9.acc.blkT (h.1 ▸ h.2)⟩)).next u434 (fun i hi (h : i = bk17) => show TP (FX (FA mb pb sb) bk17) pb w306 i by first | omega | assumption | exact TP.back (by assumption) hi h | exact TP.back (by assumption) hi (TP.unfx h (by omega)) | exact Or.inl (by rw [h]; assumption) | exact h.elim (fun h => TP.back uPB hi h.fx) (fun h => by omega) | exact Or.inr ⟨h.2, h.1 ▸ hpl9.acc.blkT (h.1 ▸ h.2)⟩))
   have uW : Upd (TP (FX (FX (FA mb pb sb) bk17) (w284.heap.size + 1)) pb w306) _ _ := hUr.mono (fun i h => h.fx)
   have B437 := (hsb2.keep u434 (by omega))
   have uT : Upd (· = bk17) w427 w433 := ((Upd.refl (· = bk17) _).next u434 (fun i hi h => h))
   exact fun a ha => ⟨KeepsFrom.of_updB hUr hcellsR, (⟨⟨⟨_, _, q9, _, _, _, _, htr, (by show asgP r xs0 (x.hm.map HM.mb) (rows.length + 1) u9 = _; rw [← hA9]; exact Prod.ext hq9 rfl), B437, hpl2.up6 h6A uT, by rw [hso2 q9 hq9, List.map_append, List.append_assoc]; rfl⟩, B435, hY.hc.hu.next uW (fun i hi h => TP.back hY.hc.hu hi h)⟩, (hrow2.up6 h6A (by omega) uT).f0, (hY.upd.mono fun i e => .inl (.inr e)).next uW (fun i hi h => TP.back (hY.upd.mono fun i e => .inl (.inr e)) hi h)⟩ : FT (FX (FX (FA mb pb sb) bk17) (w284.heap.size + 1)) pb c r am mb cm n (AF (FX (FX (FA mb pb sb) bk17) (w284.heap.size + 1)) (fun t u => asgP r xs0 t.ms (rows.length + 1) u) (max up rows.length) mb pb sb bk17 rows w284) id x _)⟩
  have hq9 := Option.not_isSome_iff_eq_none.1 (fun h => by rw [h] at g46; cases g46)
  have hr2 := hno2 hq9
  rw [hr2] at hsb2 hpl2
  have lt_gp2 := hpl2.acc.lt
  refine c_skip (hK407 _ _ (c_drawnM follows (fun i => i = sb) (.look 0 (.look 1 (.look 2 (.look 3 (.look 5 (.look 6 (.look 7 (.act 4 (.act 8 (.look 9 (.look 10 (.look 11 (.look 12 (.look 13 (.act 14 .done .stop)))))) .stop) (.act 8 (.look 9 (.look 10 (.act 4 (.look 11 (.look 12 (.look 13 (.act 14 .done .stop)))) .stop))) .stop))))))))) (by kernel_rfl) fun w438 u439 => ?_))
  have zu439 := u439.size
  have B441 := (((B412.kx u418).keep u428 (show ¬ (TQ (FA mb pb sb) pb w403 bk7) by first | omega | assumption)).kx u439)
  refine y_load isAgg120 rfl rfl rfl (B441.get rfl) (by show ¬ (bk7 = sb); first | omega | assumption) (y_load isAgg120 rfl rfl rfl (B441.get rfl) (by show ¬ (bk7 = sb); first | omega | assumption) (y_nilchk rfl rfl rfl (y_field underlying122 rfl sizeOf56 (0) rfl rfl rfl rfl (y_load isAgg120 rfl rfl rfl (B441.get rfl) (by show ¬ (bk7 = sb); first | omega | assumption) (y_nilchk rfl rfl rfl (y_field underlying122 rfl sizeOf56 (0) rfl rfl rfl rfl (s_or ?_ ?_)))))))
  ·
   refine s_do ?_
   have B442 := (hsb2.kx u439)
   refine t_load isAgg56 rfl rfl rfl (B442.get rfl) (s_next (Upd.refl _ _) (s_do (t_load isAgg56 rfl rfl rfl (B442.get rfl) (s_next (Upd.refl _ _) (y_len underlying56 rfl rfl rfl rfl (y_ari rfl rfl rfl rfl rfl (by omega) (y_sliceTo (rows.length) underlying56 sizeOf60 rfl rfl rfl rfl (by rw [List.length_append, List.length_singleton]; omega) (by have := hpl2.acc.cap_le; rw [List.length_append, List.length_singleton] at this; omega) (y_same 58 (v := .slice ap2 rows.length cp2) rfl (by rw [hpl2.acc.sub0 (by simp)]) (y_nilchk rfl rfl rfl (y_field underlying122 rfl sizeOf56 (0) rfl rfl rfl rfl (s_do (t_st (vs := [.slice ap2 rows.length cp2]) sizeOf56 rfl rfl rfl B442 rfl rfl rfl rfl (fun w443 sw443 B445 u444 => ?_)))))))))))))
   have zu444 := u444.size
   have B445 : Blk w443 sb 122 [.slice ap2 rows.length cp2, .int .i64 ((asgP r xs0 (x.hm.map HM.mb) (rows ++ [HT.hr x]).length u9).2 : Int)] := B445
   refine s_next ((Upd.refl _ _).next u444 (fun i hi (h : i = sb) => show w438.heap.size ≤ i ∨ (i = sb) by first | omega | exact .inr h)) (s_nil ?_)
   have hUr := (((((((((Upd.refl (fun i => TP (FX (FA mb pb sb) bk17) pb w306 i) w306).nx u318).nx u391).next u400 (fun i hi (h : (i = gp9 ∧ pb ≤ i)) => show TP (FX (FA mb pb sb) bk17) pb w306 i by first | omega | assumption | exact TP.back (by assumption) hi h | exact TP.back (by assumption) hi (TP.unfx h (by omega)) | exact Or.inl (by rw [h]; assumption) | exact h.elim (fun h => TP.back uPB hi h.fx) (fun h => by omega) | exact Or.inr ⟨h.2, h.1 ▸ hpl9.acc.blkT (h.1 ▸ h.2)⟩)).next u404 (fun i hi (h : i = sb) => show TP (FX (FA mb pb sb) bk17) pb w306 i by first | omega | assumption | exact TP.back (by assumption) hi h | exact TP.back (by assumption) hi (TP.unfx h (by omega)) | exact Or.inl (by rw [h]; assumption) | exact h.elim (fun h => TP.back uPB hi h.fx) (fun h => by omega) | exact Or.inr ⟨h.2, h.1 ▸ hpl9.acc.blkT (h.1 ▸ h.2)⟩)).nx u418).next u428 (fun i hi (h : TQ (FA mb pb sb) pb w403 i) => show TP (FX (FA mb pb sb) bk17) pb w306 i by first | omega | assumption | exact TP.back (by assumption) hi h | exact TP.back (by assumption) hi (TP.unfx h (by omega)) | exact Or.inl (by rw [h]; assumption) | exact h.elim (fun h => TP.back uPB hi h.fx) (fun h => by omega) | exact Or.inr ⟨h.2, h.1 ▸ hpl9.acc.blkT (h.1 ▸ h.2)⟩)).nx u439).next u444 (fun i hi (h : i = sb) => show TP (FX (FA mb pb sb) bk17) pb w306 i by first | omega | assumption | exact TP.back (by assumption) hi h | exact TP.back (by assumption) hi (TP.unfx h (by omega)) | exact Or.inl (by rw [h]; assumption) | exact h.elim (fun h => TP.back uPB hi h.fx) (fun h => by omega) | exact Or.inr ⟨h.2, h.1 ▸ hpl9.acc.blkT (h.1 ▸ h.2)⟩))
   have uW : Upd (TP (FX (FX (FA mb pb sb) bk17) (w284.heap.size + 1)) pb w306) _ _ := hUr.mono (fun i h => h.fx)
   have B447 := ((B431.kx u439).keep u444 (by omega))
   have uT : Upd (· = sb) w427 w443 := (((Upd.refl (· = sb) _).nx u439).next u444 (fun i hi h => h))
   exact fun a ha => ⟨KeepsFrom.of_updB hUr hcellsR, (⟨⟨⟨_, _, _, _, tryF_step htr (by show asgP r xs0 (x.hm.map HM.mb) (rows.length + 1) u9 = _; rw [← hA9]; exact Prod.ext hq9 rfl), B445, hpl2.pop.upd uT (fun hb e => hpl2.nf hb (.inr e)) (fun q hq hb e => hpl2.pop.mf q hq hb (.inr e))⟩, B447, hY.hc.hu.next uW (fun i hi h => TP.back hY.hc.hu hi h)⟩, (hrow2.tpS hp.hsm hp.hcs (.inr rfl) hsb (uT.mono fun i e => .inl e)).toF hY.row.row, (hY.upd.mono fun i e => .inl (.inr e)).next uW (fun i hi h => TP.back (hY.upd.mono fun i e => .inl (.inr e)) hi h)⟩ : ZT (FX (FX (FA mb pb sb) bk17) (w284.heap.size + 1)) pb c r am mb cm n (AC (FX (FX (FA mb pb sb) bk17) (w284.heap.size + 1)) (fun t u => asgP r xs0 t.ms (rows.length + 1) u) (max up rows.length) mb pb sb bk17 rows w284) x _)⟩
  refine s_do ?_
  have B448 := (hsb2.kx u439)
  refine t_load isAgg56 rfl rfl rfl (B448.get rfl) (s_next (Upd.refl _ _) (y_len underlying56 rfl rfl rfl rfl (y_ari rfl rfl rfl rfl rfl (by omega) (s_do (t_load isAgg56 rfl rfl rfl (B448.get rfl) (s_next (Upd.refl _ _) (y_sliceTo (rows.length) underlying56 sizeOf60 rfl rfl rfl rfl (by rw [List.length_append, List.length_singleton]; omega) (by have := hpl2.acc.cap_le; rw [List.length_append, List.length_singleton] at this; omega) (y_same 58 (v := .slice ap2 rows.length cp2) rfl (by rw [hpl2.acc.sub0 (by simp)]) (y_nilchk rfl rfl rfl (y_field underlying122 rfl sizeOf56 (0) rfl rfl rfl rfl (s_do (t_st (vs := [.slice ap2 rows.length cp2]) sizeOf56 rfl rfl rfl B448 rfl rfl rfl rfl (fun w449 sw449 B451 u450 => ?_)))))))))))))
  have zu450 := u450.size
  have B451 : Blk w449 sb 122 [.slice ap2 rows.length cp2, .int .i64 ((asgP r xs0 (x.hm.map HM.mb) (rows ++ [HT.hr x]).length u9).2 : Int)] := B451
  refine s_next ((Upd.refl _ _).next u450 (fun i hi (h : i = sb) => show w438.heap.size ≤ i ∨ (i = sb) by first | omega | exact .inr h)) (s_nil ?_)
  have hUr := (((((((((Upd.refl (fun i => TP (FX (FA mb pb sb) bk17) pb w306 i) w306).nx u318).nx u391).next u400 (fun i hi (h : (i = gp9 ∧ pb ≤ i)) => show TP (FX (FA mb pb sb) bk17) pb w306 i by first | omega | assumption | exact TP.back (by assumption) hi h | exact TP.back (by assumption) hi (TP.unfx h (by omega)) | exact Or.inl (by rw [h]; assumption) | exact h.elim (fun h => TP.back uPB hi h.fx) (fun h => by omega) | exact Or.inr ⟨h.2, h.1 ▸ hpl9.acc.blkT (h.1 ▸ h.2)⟩)).next u404 (fun i hi (h : i = sb) => show TP (FX (FA mb pb sb) bk17) pb w306 i by first | omega | assumption | exact TP.back (by assumption) hi h | exact TP.back (by assumption) hi (TP.unfx h (by omega)) | exact Or.inl (by rw [h]; assumption) | exact h.elim (fun h => TP.back uPB hi h.fx) (fun h => by omega) | exact Or.inr ⟨h.2, h.1 ▸ hpl9.acc.blkT (h.1 ▸ h.2)⟩)).nx u418).next u428 (fun i hi (h : TQ (FA mb pb sb) pb w403 i) => show TP (FX (FA mb pb sb) bk17) pb w306 i by first | omega | assumption | exact TP.back (by assumption) hi h | exact TP.back (by assumption) hi (TP.unfx h (by omega)) | exact Or.inl (by rw [h]; assumption) | exact h.elim (fun h => TP.back uPB hi h.fx) (fun h => by omega) | exact Or.inr ⟨h.2, h.1 ▸ hpl9.acc.blkT (h.1 ▸ h.2)⟩)).nx u439).next u450 (fun i hi (h : i = sb) => show TP (FX (FA mb pb sb) bk17) pb w306 i by first | omega | assumption | exact TP.back (by assumption) hi h | exact TP.back (by assumption) hi (TP.unfx h (by omega)) | exact Or.inl (by rw [h]; assumption) | exact h.elim (fun h => TP.back uPB hi h.fx) (fun h => by omega) | exact Or.inr ⟨h.2, h.1 ▸ hpl9.acc.blkT (h.1 ▸ h.2)⟩))
  have uW : Upd (TP (FX (FX (FA mb pb sb) bk17) (w284.heap.size + 1)) pb w306) _ _ := hUr.mono (fun i h => h.fx)
  have B453 := ((B431.kx u439).keep u450 (by omega))
  have uT : Upd (· = sb) w427 w449 := (((Upd.refl (· = sb) _).nx u439).next u450 (fun i hi h => h))
  exact fun a ha => ⟨KeepsFrom.of_updB hUr hcellsR, (⟨⟨⟨_, _, _, _, tryF_step htr (by show asgP r xs0 (x.hm.map HM.mb) (rows.length + 1) u9 = _; rw [← hA9]; exact Prod.ext hq9 rfl), B451, hpl2.pop.upd uT (fun hb e => hpl2.nf hb (.inr e)) (fun q hq hb e => hpl2.pop.mf q hq hb (.inr e))⟩, B453, hY.hc.hu.next uW (fun i hi h => TP.back hY.hc.hu hi h)⟩, (hrow2.tpS hp.hsm hp.hcs (.inr rfl) hsb (uT.mono fun i e => .inl e)).toF hY.row.row, (hY.upd.mono fun i e => .inl (.inr e)).next uW (fun i hi h => TP.back (hY.upd.mono fun i e => .inl (.inr e)) hi h)⟩ : ZT (FX (FX (FA mb pb sb) bk17) (w284.heap.size + 1)) pb c r am mb cm n (AC (FX (FX (FA mb pb sb) bk17) (w284.heap.size + 1)) (fun t u => asgP r xs0 t.ms (rows.length + 1) u) (max up rows.length) mb pb sb bk17 rows w284) x _)⟩
 ·
  have D456 := (((((((((show Marks w0.heap.size [] w0 from trivial).keepB u5 (CellsB.of (CellsIn.none _))).keepB u10 (CellsB.of (CellsIn.none _))).keepB u15 (CellsB.of (CellsIn.none _))).keepB u20 (CellsB.of (CellsIn.none _))).keepB u24 (CellsB.of (CellsIn.none _))).keepB u254 (CellsB.of (B252).cellsIn)).keepB u276 (CellsB.of (CellsIn.none _))).keepB u285 (CellsB.of (CellsIn.none _)))
  have hmk0 := D456
  have hmc0 := (TP.cellsB6 (F := (FA mb pb sb)) (pb := pb) (B := w0.heap.size) (w := w284) (fun i h => (hFAl i h).2) B288)
  intro D455 w454 hD455 hE hdD455
  have hu9 : Upd (TP (FX (FA mb pb sb) bk17) pb w284) w284 w454 := ⟨hE.hu.os, hE.hu.tape, hE.hu.output, hE.hu.size, fun k hk hn => hE.hu.block k hk (fun h => hn (h.unfx (by omega)))⟩
  have zhu9 := hu9.size
  obtain ⟨pr9, v9, po9, e9, hAF9⟩ := hE.hi
  obtain ⟨u1E, uE, qE, rowsE, apE, gpE, cpE, htE, hfE, hsbE, hplE, hmE⟩ := hAF9.ex
  have mk458 := (hmk0.keepB hu9 hmc0).push (D := D455) (by omega) hdD455 (fun d hd D' e => Nat.lt_of_lt_of_le (hmk0.lt d hd D' e) hD455)
  have hrowE : RowC (FA mb pb sb) pb c r am mb cm n ms _ := hE.row.toF hp.row.row
  have hmkE := mk458
  refine f_retMc1 (v := .bool true) results58 (.cell mk458 rfl isAgg4 hAF9.b6 rfl) mk458 (fun w459 u460 omw459 => ?_)
  have zu460 := u460.size
  have E461 := (E287.next hu9 (fun i hi (h : TP (FX (FA mb pb sb) bk17) pb w284 i) => show TP (FA mb pb sb) pb w0 i by first | omega | assumption | exact TP.back (by assumption) hi h | exact TP.back (by assumption) hi (TP.unfx h (by omega)) | exact Or.inl (by rw [h]; assumption) | exact h.elim (fun h => TP.back uPB hi h.fx) (fun h => by omega) | exact Or.inr ⟨h.2, h.1 ▸ hpl9.acc.blkT (h.1 ▸ h.2)⟩)).next u460 (fun i hi (h : w0.heap.size ≤ i) => show TP (FA mb pb sb) pb w0 i by first | omega | assumption | exact TP.back (by assumption) hi h | exact TP.back (by assumption) hi (TP.unfx h (by omega)) | exact Or.inl (by rw [h]; assumption) | exact h.elim (fun h => TP.back uPB hi h.fx) (fun h => by omega) | exact Or.inr ⟨h.2, h.1 ▸ hpl9.acc.blkT (h.1 ▸ h.2)⟩)
  have hres := tryF_hit (post := po9) htE hfE
  rw [← e9, ← hasg] at hres
  rw [hres]
  exact ⟨rfl, ⟨rowsE, apE, gpE, cpE, hsbE.keep omw459 (hmkE.notBlk hsbE), (hplE).bent omw459 (fun i hi => (hmkE.bent i hi).2), fun h => (by cases h), fun p h => by
    injection h with h; subst h; exact hmE⟩, (RowC.bent (B := w0.heap.size) (by omega) _ _ _ _ (hrowE) omw459 hmkE.bent), E461⟩
 ·
  have D464 := (((((((((show Marks w0.heap.size [] w0 from trivial).keepB u5 (CellsB.of (CellsIn.none _))).keepB u10 (CellsB.of (CellsIn.none _))).keepB u15 (CellsB.of (CellsIn.none _))).keepB u20 (CellsB.of (CellsIn.none _))).keepB u24 (CellsB.of (CellsIn.none _))).keepB u254 (CellsB.of (B252).cellsIn)).keepB u276 (CellsB.of (CellsIn.none _))).keepB u285 (CellsB.of (CellsIn.none _)))
  have hmk0 := D464
  have hmc0 := (TP.cellsB6 (F := (FA mb pb sb)) (pb := pb) (B := w0.heap.size) (w := w284) (fun i h => (hFAl i h).2) B288)
  intro D463 w462 hD463 hE hdD463
  have hu9 : Upd (TP (FX (FA mb pb sb) bk17) pb w284) w284 w462 := ⟨hE.hu.os, hE.hu.tape, hE.hu.output, hE.hu.size, fun k hk hn => hE.hu.block k hk (fun h => hn (h.unfx (by omega)))⟩
  have zhu9 := hu9.size
  obtain ⟨uE, apE, gpE, cpE, htE, hsbE, hplE⟩ := hE.hi.ex
  have mk466 := (hmk0.keepB hu9 hmc0).push (D := D463) (by omega) hdD463 (fun d hd D' e => Nat.lt_of_lt_of_le (hmk0.lt d hd D' e) hD463)
  refine hK273 _ _ (c_seq fun K467 hK467 => (c_region (t_st (vs := [.bool false]) sizeOf4 rfl rfl rfl hE.hi.b6 rfl rfl rfl rfl (fun w468 sw468 B470 u469 => ?_))))
  have zu469 := u469.size
  have E471 := (E287.next hu9 (fun i hi (h : TP (FX (FA mb pb sb) bk17) pb w284 i) => show TP (FA mb pb sb) pb w0 i by first | omega | assumption | exact TP.back (by assumption) hi h | exact TP.back (by assumption) hi (TP.unfx h (by omega)) | exact Or.inl (by rw [h]; assumption) | exact h.elim (fun h => TP.back uPB hi h.fx) (fun h => by omega) | exact Or.inr ⟨h.2, h.1 ▸ hpl9.acc.blkT (h.1 ▸ h.2)⟩)).next u469 (fun i hi (h : i = bk17) => show TP (FA mb pb sb) pb w0 i by first | omega | assumption | exact TP.back (by assumption) hi h | exact TP.back (by assumption) hi (TP.unfx h (by omega)) | exact Or.inl (by rw [h]; assumption) | exact h.elim (fun h => TP.back uPB hi h.fx) (fun h => by omega) | exact Or.inr ⟨h.2, h.1 ▸ hpl9.acc.blkT (h.1 ▸ h.2)⟩)
  have B470 : Blk w468 bk17 4 [.bool false] := B470
  refine t_nil' (hK467 _ _ (c_ret ?_))
  have B472 := (hsbE.keep u469 (by omega))
  have uT : Upd (· = bk17) w462 w468 := ((Upd.refl (· = bk17) _).next u469 (fun i hi h => h))
  have hrowE : RowC (FA mb pb sb) pb c r am mb cm n ms w468 := (hE.row.toF hp.row.row).up6 hE.hi.b6 (by omega) uT
  have hplE9 := hplE.up6 hE.hi.b6 uT
  have D475 := (mk466.keepB u469 (CellsB.of (hE.hi.b6).cellsIn))
  have hmkE := D475
  refine f_retMc1 (v := .bool false) results58 (.cell D475 rfl isAgg4 B470 rfl) D475 (fun w473 u474 omw473 => ?_)
  have zu474 := u474.size
  rw [← hasg] at htE
  rw [htE]
  exact ⟨rfl, ⟨rows, apE, gpE, cpE, B472.keep omw473 (hmkE.notBlk B472), (hplE9).bent omw473 (fun i hi => (hmkE.bent i hi).2), fun _ => rfl, fun p h => (by cases h)⟩, (RowC.bent (B := w0.heap.size) (by omega) _ _ _ _ (hrowE) omw473 hmkE.bent), (E471.next u474 (fun i hi (h : w0.heap.size ≤ i) => show TP (FA mb pb sb) pb w0 i by first | omega | assumption | exact TP.back (by assumption) hi h | exact TP.back (by assumption) hi (TP.unfx h (by omega)) | exact Or.inl (by rw [h]; assumption) | exact h.elim (fun h => TP.back uPB hi h.fx) (fun h => by omega) | exact Or.inr ⟨h.2, h.1 ▸ hpl9.acc.blkT (h.1 ▸ h.2)⟩))⟩

end Go.Proofs.YtagmodjadmecdaaGreat
