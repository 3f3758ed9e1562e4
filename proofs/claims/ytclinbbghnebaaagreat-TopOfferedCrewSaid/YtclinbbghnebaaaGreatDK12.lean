/-
  Part 12 of the proof: contracts and plain laws. Conditions: none.
-/
import Derived.Test.YtclinbbghnebaaaGreatDK11
namespace Go.Proofs.YtclinbbghnebaaaGreat
open Go Go.RowKit Go.Proofs.Tryz
set_option maxRecDepth 10000

structure Ppr where
  r : Int
  u : Int
instance : Inhabited Ppr := ⟨⟨default, default⟩⟩
structure Leg where
  r : Int
  t : Dty
  h : Int
  p : Int
instance : Inhabited Leg := ⟨⟨default, default, default, default⟩⟩
/-- A sailor: times, papers, duties. -/
structure Slr where
  f : Int
  u : Int
  ps : List Ppr
  ds : List Dty
instance : Inhabited Slr := ⟨⟨default, default, default, default⟩⟩
def encPpr (x : Ppr) : List Value := [.int .i64 x.r, .int .i64 x.u]
def encLeg (x : Leg) : List Value := [.int .i64 x.r, .int .i64 x.t.bl, .int .i64 x.t.bh, .int .i64 x.t.el, .int .i64 x.t.eh, .int .i64 x.h, .int .i64 x.p]
def okPpr (p : Ppr) : Bool := decide ((0 ≤ p.r ∧ p.r ≤ 19) ∧ (0 ≤ p.u ∧ p.u ≤ 20160))
def okLeg (x : Leg) : Bool := decide ((0 ≤ x.r ∧ x.r ≤ 19) ∧ okDty x.t = true ∧ (1 ≤ x.h ∧ x.h ≤ 3) ∧ (0 ≤ x.p ∧ x.p ≤ x.h))
def okSlr (s : Slr) : Bool := decide (((0 ≤ s.f ∧ s.f ≤ 20160) ∧ (0 ≤ s.u ∧ s.u ≤ 20160)) ∧ s.f ≤ s.u ∧ s.ps.length ≤ 10 ∧ (∀ p ∈ s.ps, okPpr p = true) ∧ chkD s.ds = 0)
/-- A leg lies within a member's time. -/
def winM (f u : Int) (x : Leg) : Bool := decide (f ≤ x.t.bl ∧ x.t.eh ≤ u)
def canB (r : Rul) (f u : Int) (l : List Sp) (x : Leg) : Bool := winM f u x && decide (brokP r (insS (lngS x.t) l) = 0)
def canT (f u : Int) (l : List Sp) (x : Leg) : List Sp := if winM f u x = true then insS (lngS x.t) l else l
def pltP (ps : List Ppr) (x : Leg) : Bool := ps.any fun p => decide (p.r = x.r ∧ x.t.eh ≤ p.u)
theorem chkD_ok {l : List Dty} (h : chkD l = 0) : l.length ≤ 20 ∧ ∀ d ∈ l, okDty d = true := by
  unfold chkD at h
  by_cases h2 : 20 < l.length
  · rw [if_pos h2] at h; cases h
  · rw [if_neg h2] at h
    by_cases h3 : (l.any fun d => !okDty d) = true
    · rw [if_pos h3] at h; cases h
    · refine ⟨by omega, fun d hd => ?_⟩
      cases hq : okDty d with
      | true => rfl
      | false => exact absurd (List.any_eq_true.2 ⟨d, hd, by simp [hq]⟩) h3
theorem okSlr_ok {s : Slr} (h : okSlr s = true) : ((0 ≤ s.f ∧ s.f ≤ 20160) ∧ (0 ≤ s.u ∧ s.u ≤ 20160)) ∧ s.ps.length ≤ 10 ∧ s.ds.length ≤ 20 ∧ ∀ d ∈ s.ds, okDty d = true := by
  simp only [okSlr, decide_eq_true_eq] at h
  exact ⟨h.1, h.2.2.1, chkD_ok h.2.2.2.2⟩
theorem okLeg_ok {x : Leg} (h : okLeg x = true) : okDty x.t = true ∧ (1 ≤ x.h ∧ x.h ≤ 3) ∧ (0 ≤ x.p ∧ x.p ≤ x.h) := by
  simp only [okLeg, decide_eq_true_eq] at h
  exact h.2
end Go.Proofs.YtclinbbghnebaaaGreat
namespace Go.Proofs.YtclinbbghnebaaaGreat
open Go Go.RowKit Go.Proofs.Tryz
set_option maxRecDepth 10000

/-- A sailor in memory. -/
structure HS where
  f : Int
  u : Int
  ps : List Ppr
  ap : Option Addr
  bp : Nat
  op : Nat
  cp : Nat
  ds : List Dty
  ad : Option Addr
  bd : Nat
  od : Nat
  cd : Nat
instance : Inhabited HS := ⟨⟨default, default, default, default, default, default, default, default, default, default, default, default⟩⟩
def HS.slr (h : HS) : Slr := ⟨h.f, h.u, h.ps, h.ds⟩
structure SlrM (w : World) (h : HS) : Prop where
  hp : Sl encPpr 2 w h.ap h.bp h.op h.ps
  hpl : h.ps.length ≤ 1000000
  hd : Sl encDty 4 w h.ad h.bd h.od h.ds
  hdl : h.ds.length ≤ 1000000
theorem SlrM.ext {w w' : World} {h : HS} (m : SlrM w h) (u : Ext w w') : SlrM w' h := ⟨m.hp.keep u (fun _ h => h), m.hpl, m.hd.keep u (fun _ h => h), m.hdl⟩
/-- A member: times, papers, times of work. -/
structure Mb where
  f : Int
  u : Int
  ps : List Ppr
  ts : List Sp
instance : Inhabited Mb := ⟨⟨default, default, default, default⟩⟩
def boardP (s : Slr) : Mb := ⟨s.f, s.u, s.ps, srtS (s.ds.map lngS)⟩
/-- A member in memory. -/
structure HM where
  f : Int
  u : Int
  ps : List Ppr
  ap : Option Addr
  bp : Nat
  op : Nat
  cp : Nat
  ad : Option Addr
  nd : Nat
  cd : Nat
  ts : List Sp
  at_ : Option Addr
  gt : Nat
  ct : Nat
instance : Inhabited HM := ⟨⟨default, default, default, default, default, default, default, default, default, default, default, default, default, default⟩⟩
def HM.mb (h : HM) : Mb := ⟨h.f, h.u, h.ps, h.ts⟩
def encHM (h : HM) : List Value := [.int .i64 h.f, .int .i64 h.u, .slice h.ap h.ps.length h.cp, .slice h.ad h.nd h.cd, .slice h.at_ h.ts.length h.ct]
/-- What may turn: blocks of F, and the rows of plans. -/
def TP (F : Nat → Prop) (pb : Nat) (w : World) (i : Nat) : Prop := F i ∨ (pb ≤ i ∧ ∃ cs, Blk w i 38 cs)
theorem TP.back {F : Nat → Prop} {pb : Nat} {w w' : World} (u : Upd (TP F pb w) w w') {i : Nat} (hi : i < w.heap.size) (h : TP F pb w' i) : TP F pb w i := by
  by_cases q : TP F pb w i
  · exact q
  · rcases h with h | ⟨h, cs, hb⟩
    · exact .inl h
    · exact .inr ⟨h, cs, (u.block i hi q).symm.trans hb⟩
theorem TP.backE {F : Nat → Prop} {pb : Nat} {w w' : World} (u : Ext w w') {i : Nat} (hi : i < w.heap.size) (h : TP F pb w' i) : TP F pb w i := TP.back u.to hi h
theorem PU.trans {F : Nat → Prop} {pb : Nat} {a b c : World} (u : Upd (TP F pb a) a b) (v : Upd (TP F pb b) b c) : Upd (TP F pb a) a c := u.next v (fun _ hi h => TP.back u hi h)
theorem TP.not {F : Nat → Prop} {pb b : Nat} {w : World} {t : TypeId} {cs : List Value} (hF : ¬ F b) (h : Blk w b t cs) (ht : t ≠ 38) : ¬ TP F pb w b := by
  rintro (q | ⟨_, cs', q⟩)
  · exact hF q
  · unfold Blk at h q; rw [h] at q; injection q with q; injection q with _ q; exact ht q
theorem Acc.notTP {α : Type} {enc : α → List Value} {k : Nat} {e : TypeId} {base : Nat} {w : World} {ao : Option Addr} {g cap : Nat} {xs : List α} (h : Acc enc k e base w ao g cap xs) {F : Nat → Prop} {pb : Nat} (hF : base ≤ g → ¬ F g) (ht : e ≠ 38) : base ≤ g → ¬ TP F pb w g := fun hb => by
  rcases h.at_ with ⟨_, _, _, h1⟩ | ⟨_, _, cur, h1, _⟩
  · omega
  · exact TP.not (cs := cur.toList) (hF hb) (by simpa [Blk] using h1) ht
theorem Acc.notLoop {α : Type} {enc : α → List Value} {k : Nat} {e : TypeId} {base : Nat} {w : World} {ao : Option Addr} {g cap l : Nat} {xs : List α} (h : Acc enc k e base w ao g cap xs) (hl : ∃ r, w.heap[l]? = some (.loop r)) : base ≤ g → ¬ g = l := fun hb e => by
  subst e; obtain ⟨r, hr⟩ := hl
  rcases h.at_ with ⟨_, _, _, h1⟩ | ⟨_, _, cur, h1, _⟩
  · omega
  · rw [hr] at h1; cases h1
/-- A member lies in memory; its times of work are none of F. -/
structure MbM (F : Nat → Prop) (pb : Nat) (w : World) (m : HM) : Prop where
  hp : Sl encPpr 2 w m.ap m.bp m.op m.ps
  hb : 0 < m.ps.length → m.bp < pb
  hpl : m.ps.length ≤ 10
  ht : Acc encSp 2 180 pb w m.at_ m.gt m.ct m.ts
  hn : pb ≤ m.gt → ¬ F m.gt
  srt : Srt m.ts
  ok : ∀ s ∈ m.ts, OkSp s
/-- The members of a crew lie in memory. -/
structure RowM (F : Nat → Prop) (pb : Nat) (w : World) (am : Option Addr) (mb cm : Nat) (ms : List HM) : Prop where
  acc : Acc encHM 5 269 pb w am mb cm ms
  mem : ∀ m ∈ ms, MbM F pb w m
theorem MbM.ext {F : Nat → Prop} {pb : Nat} {w w' : World} {m : HM} (h : MbM F pb w m) (u : Ext w w') : MbM F pb w' m := ⟨h.hp.keep u (fun _ h => h), h.hb, h.hpl, h.ht.keep u (fun _ h => h), h.hn, h.srt, h.ok⟩
theorem RowM.ext {F : Nat → Prop} {pb : Nat} {w w' : World} {am : Option Addr} {mb cm : Nat} {ms : List HM} (h : RowM F pb w am mb cm ms) (u : Ext w w') : RowM F pb w' am mb cm ms := ⟨h.acc.keep u (fun _ h => h), fun m hm => (h.mem m hm).ext u⟩
theorem MbM.upd {F S : Nat → Prop} {pb : Nat} {w w' : World} {m : HM} (h : MbM F pb w m) (u : Upd S w w') (h1 : 0 < m.ps.length → ¬ S m.bp) (h2 : pb ≤ m.gt → ¬ S m.gt) : MbM F pb w' m := ⟨h.hp.keep u h1, h.hb, h.hpl, h.ht.keep u h2, h.hn, h.srt, h.ok⟩
theorem Acc.neAcc {α β : Type} {enc : α → List Value} {enc' : β → List Value} {k k' : Nat} {e e' : TypeId} {base base' : Nat} {w : World} {ao ao' : Option Addr} {g g' cap cap' : Nat} {xs : List α} {ys : List β} (h : Acc enc k e base w ao g cap xs) (h' : Acc enc' k' e' base' w ao' g' cap' ys) (ht : e ≠ e') : base ≤ g → base' ≤ g' → g ≠ g' := fun hb hb' q => by
  subst q
  rcases h.at_ with ⟨_, _, _, h1⟩ | ⟨_, _, cur, h1, _⟩
  · omega
  · rcases h'.at_ with ⟨_, _, _, h2⟩ | ⟨_, _, cur', h2, _⟩
    · omega
    · rw [h1] at h2; injection h2 with h2; injection h2 with _ h2; exact ht h2
/-- The row itself is turned. -/
theorem MbM.row {F : Nat → Prop} {pb mb : Nat} {w w' : World} {m : HM} (h : MbM F pb w m) (hm : pb ≤ mb → F mb) (u : Upd (fun i => i = mb ∧ pb ≤ i) w w') : MbM F pb w' m :=
  ⟨h.hp.keep u (fun hp hq => by have h1 := h.hb hp; omega), h.hb, h.hpl, h.ht.keep u (fun hb hq => h.hn hb (hq.1 ▸ hm (by omega))), h.hn, h.srt, h.ok⟩
theorem MbM.turned {F : Nat → Prop} {pb : Nat} {l : Nat} : Turned l (fun m W => MbM F pb W m) := fun m W W' h hl u =>
  ⟨h.hp.keep u (fun hp => h.hp.notLoop (fun _ => by simp [encPpr]) hl hp), h.hb, h.hpl, h.ht.keep u (h.ht.notLoop hl), h.hn, h.srt, h.ok⟩
theorem RowM.turned {F : Nat → Prop} {pb : Nat} {am : Option Addr} {mb cm l : Nat} : Turned l (fun ms W => RowM F pb W am mb cm ms) := fun _ms W W' h hl u =>
  ⟨h.acc.keep u (h.acc.notLoop hl), fun m hm => MbM.turned m W W' (h.mem m hm) hl u⟩
theorem RowM.mono {F G : Nat → Prop} {pb : Nat} {w : World} {am : Option Addr} {mb cm : Nat} {ms : List HM} (h : RowM F pb w am mb cm ms) (hG : ∀ m ∈ ms, pb ≤ m.gt → G m.gt → F m.gt) : RowM G pb w am mb cm ms :=
  ⟨h.acc, fun m hm => let q := h.mem m hm; ⟨q.hp, q.hb, q.hpl, q.ht, fun hb hg => q.hn hb (hG m hm hb hg), q.srt, q.ok⟩⟩
theorem RowM.set {F : Nat → Prop} {pb : Nat} {w w' : World} {am : Option Addr} {mb cm i : Nat} {ms : List HM} {m : HM} (h : RowM F pb w am mb cm ms) (hm : pb ≤ mb → F mb) (u : Upd (fun i => i = mb ∧ pb ≤ i) w w') (ha : Acc encHM 5 269 pb w' am mb cm (ms.set i m)) (hn : MbM F pb w m) : RowM F pb w' am mb cm (ms.set i m) :=
  ⟨ha, fun x hx => by
    rcases List.mem_or_eq_of_mem_set hx with q | q
    · exact (h.mem x q).row hm u
    · rw [q]; exact hn.row hm u⟩
/-- The error of rules, sailors and legs. -/
def openE (r : Rul) (ss : List Slr) (xs : List Leg) : Int :=
  if chkR r ≠ 0 then chkR r else if 6 < ss.length then 5 else if (ss.any fun s => !okSlr s) = true then 2 else if 8 < xs.length then 5 else if (xs.any fun x => !okLeg x) = true then 2 else 0
theorem openE_ok {r : Rul} {ss : List Slr} {xs : List Leg} (h : openE r ss xs = 0) : okRul r = true ∧ ss.length ≤ 6 ∧ (∀ s ∈ ss, okSlr s = true) ∧ xs.length ≤ 8 ∧ ∀ x ∈ xs, okLeg x = true := by
  unfold openE at h
  by_cases h1 : okRul r = true
  · have e1 : chkR r = 0 := by unfold chkR; rw [if_pos h1]
    rw [if_neg (by omega)] at h
    by_cases h2 : 6 < ss.length
    · rw [if_pos h2] at h; cases h
    rw [if_neg h2] at h
    by_cases h3 : (ss.any fun s => !okSlr s) = true
    · rw [if_pos h3] at h; cases h
    rw [if_neg h3] at h
    by_cases h4 : 8 < xs.length
    · rw [if_pos h4] at h; cases h
    rw [if_neg h4] at h
    by_cases h5 : (xs.any fun x => !okLeg x) = true
    · rw [if_pos h5] at h; cases h
    refine ⟨h1, by omega, fun s hs => ?_, by omega, fun x hx => ?_⟩
    · cases q : okSlr s with
      | true => rfl
      | false => exact absurd (List.any_eq_true.2 ⟨s, hs, by simp [q]⟩) h3
    · cases q : okLeg x with
      | true => rfl
      | false => exact absurd (List.any_eq_true.2 ⟨x, hx, by simp [q]⟩) h5
  · have e1 : chkR r = 2 := by unfold chkR; rw [if_neg h1]
    rw [if_pos (by omega)] at h; omega
def MKM (h : HS) (ao : Option Addr) (g c : Nat) : HM := ⟨h.f, h.u, h.ps, h.ap, h.bp, h.op, h.cp, h.ad, h.ds.length, h.cd, srtS (h.ds.map lngS), ao, g, c⟩
theorem MKM.mem {pb : Nat} {w : World} {h : HS} {ao : Option Addr} {g c : Nat} (m : SlrM w h) (hok : okSlr h.slr = true) (hb : 0 < h.ps.length → h.bp < pb) (ha : Acc encSp 2 180 pb w ao g c (srtS (h.ds.map lngS))) : MbM (fun _ => False) pb w (MKM h ao g c) :=
  have q := okSlr_ok hok
  ⟨m.hp, hb, q.2.1, ha, fun _ h => h, srt_srt _, lngs_ok q.2.2.2⟩
end Go.Proofs.YtclinbbghnebaaaGreat
namespace Go.Proofs.YtclinbbghnebaaaGreat
open Go Go.RowKit Go.Proofs.Tryz
set_option maxRecDepth 10000

/-- A team: its members' numbers, how many are pilots, and all members behind it. -/
structure Tm where
  nums : List Int
  pl : Int
  ms : List Mb
instance : Inhabited Tm := ⟨⟨default, default, default⟩⟩
def canM (r : Rul) (x : Leg) (m : Mb) : Bool := canB r m.f m.u m.ts x
def aftM (x : Leg) (m : Mb) : Mb := ⟨m.f, m.u, m.ps, canT m.f m.u m.ts x⟩
def pltI (m : Mb) (x : Leg) : Int := if pltP m.ps x = true then 1 else 0
/-- The teams for a leg, in the order in which they are handed out. -/
def teamsP (r : Rul) (x : Leg) : Nat → Nat → List Int → Int → List Mb → List Tm
  | 0, _, nums, pl, ms => if x.p ≤ pl then [⟨nums, pl, ms⟩] else []
  | k + 1, i, nums, pl, ms => (List.range' i (ms.length - i)).flatMap fun i => if canM r x (nth ms i) = true then teamsP r x k (i + 1) (nums ++ [(i : Int)]) (pl + pltI (nth ms i) x) (ms.set i (aftM x (nth ms i))) else []
theorem nth_map' {α β : Type} [Inhabited α] [Inhabited β] (f : α → β) {l : List α} {i : Nat} (h : i < l.length) : nth (l.map f) i = f (nth l i) := by
  rw [nth_eq h, nth_eq (by simpa using h)]; simp
theorem set_self {α : Type} [Inhabited α] {l : List α} {i : Nat} (h : i < l.length) : l.set i (nth l i) = l := by rw [nth_eq h]; exact List.set_getElem_self h
/-- A team that is handed out; those before it; the members in memory. -/
structure HT where
  pre : List Tm
  nums : List Int
  ao : Option Addr
  g : Nat
  cap : Nat
  pl : Int
  hm : List HM
  w : World
def encHT (x : HT) : Value := .agg #[.slice x.ao x.nums.length x.cap, .int .i64 x.pl]
def HT.tm (x : HT) : Tm := ⟨x.nums, x.pl, x.hm.map HM.mb⟩
/-- The crew in memory: its rules and the row of its members. -/
structure RowC (F : Nat → Prop) (pb c : Nat) (r : Rul) (am : Option Addr) (mb cm n : Nat) (ms : List HM) (w : World) : Prop where
  row : RowM F pb w am mb cm ms
  blk : Blk w c 267 [.int .i64 r.rest, .int .i64 r.span, .int .i64 r.work, .int .i64 r.week, .int .i64 r.ww, .slice am n cm]
  len : ms.length = n
theorem RowC.ext {F : Nat → Prop} {pb c : Nat} {r : Rul} {am : Option Addr} {mb cm n : Nat} {ms : List HM} {w w' : World} (h : RowC F pb c r am mb cm n ms w) (u : Ext w w') : RowC F pb c r am mb cm n ms w' := ⟨h.row.ext u, h.blk.kx u, h.len⟩
theorem RowC.turned {F : Nat → Prop} {pb c : Nat} {r : Rul} {am : Option Addr} {mb cm n l : Nat} : Turned l (RowC F pb c r am mb cm n) := fun ms W W' h hl u => ⟨RowM.turned ms W W' h.row hl u, h.blk.keep u (h.blk.notLoop hl), h.len⟩
theorem RowC.mono {F G : Nat → Prop} {pb c : Nat} {r : Rul} {am : Option Addr} {mb cm n : Nat} {ms : List HM} {w : World} (h : RowC F pb c r am mb cm n ms w) (hG : ∀ m ∈ ms, pb ≤ m.gt → G m.gt → F m.gt) : RowC G pb c r am mb cm n ms w := ⟨h.row.mono hG, h.blk, h.len⟩
theorem RowM.pos {F : Nat → Prop} {pb : Nat} {w : World} {am : Option Addr} {mb cm : Nat} {ms : List HM} (h : RowM F pb w am mb cm ms) (hp : 0 < ms.length) : pb ≤ mb := by
  rcases h.acc.at_ with ⟨_, h1, _⟩ | ⟨_, h1, _⟩
  · rw [h1] at hp; cases hp
  · exact h1
abbrev MB (mb pb : Nat) (i : Nat) : Prop := i = mb ∧ pb ≤ i
theorem RowC.set {F : Nat → Prop} {pb c : Nat} {r : Rul} {am : Option Addr} {mb cm n i : Nat} {ms : List HM} {m : HM} {w w' : World} (h : RowC F pb c r am mb cm n ms w) (hm : pb ≤ mb → F mb) (u : Upd (· = mb) w w') (hpm : pb ≤ mb) (ha : Acc encHM 5 269 pb w' am mb cm (ms.set i m)) (hn : MbM F pb w m) (hc : c ≠ mb) : RowC F pb c r am mb cm n (ms.set i m) w' :=
  ⟨h.row.set hm (u.mono fun i e => ⟨e, by omega⟩) ha hn, h.blk.keep u hc, by rw [List.length_set]; exact h.len⟩
def FX (F : Nat → Prop) (l : Nat) (i : Nat) : Prop := F i ∨ i = l
abbrev F0 : Nat → Prop := fun _ => False
theorem MbM.rowT {F : Nat → Prop} {pb mb cm : Nat} {am : Option Addr} {ms : List HM} {w w' : World} {m : HM} (h : MbM F pb w m) (ha : Acc encHM 5 269 pb w am mb cm ms) (u : Upd (MB mb pb) w w') : MbM F pb w' m :=
  h.upd u (fun hp hq => by have h1 := h.hb hp; have h2 := hq.2; omega) (fun hb q => h.ht.neAcc ha (by decide) hb (q.1 ▸ q.2) q.1)
theorem RowC.toF {F G : Nat → Prop} {pb c : Nat} {r : Rul} {am am' : Option Addr} {mb cm n mb' cm' : Nat} {ms : List HM} {w w' : World} (h : RowC F pb c r am mb cm n ms w) (g : RowM G pb w' am' mb' cm' ms) : RowC G pb c r am mb cm n ms w :=
  ⟨⟨h.row.acc, fun m hm => let q := h.row.mem m hm; ⟨q.hp, q.hb, q.hpl, q.ht, (g.mem m hm).hn, q.srt, q.ok⟩⟩, h.blk, h.len⟩
structure YT (F : Nat → Prop) (pb c : Nat) (r : Rul) (am : Option Addr) (mb cm n B D : Nat) (C : List Tm → World → Prop) (x : HT) (W : World) : Prop where
  hc : C x.pre W
  row : RowC F pb c r am mb cm n x.hm W
  num : Acc encI 1 3 pb W x.ao x.g x.cap x.nums
  nf : pb ≤ x.g → ¬ F x.g
  len : ∀ m ∈ x.hm, m.ts.length ≤ B
  n3 : x.nums.length ≤ 3
  hD : D + 1 < W.heap.size
  upd : Upd (· = D + 1) x.w W
structure ZT (F : Nat → Prop) (pb c : Nat) (r : Rul) (am : Option Addr) (mb cm n : Nat) (C : List Tm → World → Prop) (x : HT) (W : World) : Prop where
  hc : C (x.pre ++ [x.tm]) W
  row : RowC F pb c r am mb cm n x.hm W
  upd : Upd (TP F pb x.w) x.w W
structure FT (F : Nat → Prop) (pb c : Nat) (r : Rul) (am : Option Addr) (mb cm n : Nat) (Cf : List Tm × Tm → World → Prop) (φ : List HM → List HM) (x : HT) (W : World) : Prop where
  hc : Cf (x.pre, x.tm) W
  row : RowC F0 pb c r am mb cm n (φ x.hm) W
  upd : Upd (TP F pb x.w) x.w W
def EndT (ts : List Tm) (Cf : List Tm × Tm → World → Prop) (W : World) : Prop := ∃ pre v post, ts = pre ++ v :: post ∧ Cf (pre, v) W
theorem YT.turned {F : Nat → Prop} {pb c : Nat} {r : Rul} {am : Option Addr} {mb cm n B D : Nat} {C : List Tm → World → Prop} (hC : Turned (D + 1) C) : Turned (D + 1) (YT F pb c r am mb cm n B D C) := fun _x _W _W' h hl u =>
  ⟨hC _ _ _ h.hc hl u, RowC.turned _ _ _ h.row hl u, h.num.keep u (h.num.notLoop hl), h.nf, h.len, h.n3, Nat.lt_of_lt_of_le h.hD u.size, h.upd.trans u⟩
theorem tp_turn {F : Nat → Prop} {pb l : Nat} {w W W' : World} (h : Upd (TP F pb w) w W) (hl : F l) (u : Upd (· = l) W W') : Upd (TP F pb w) w W' := h.next u (fun _i _ e => .inl (e ▸ hl))
theorem ZT.turned {F : Nat → Prop} {pb c : Nat} {r : Rul} {am : Option Addr} {mb cm n l : Nat} {C : List Tm → World → Prop} (hC : Turned l C) (hT : F l) : Turned l (ZT F pb c r am mb cm n C) := fun _x _W _W' h hl u =>
  ⟨hC _ _ _ h.hc hl u, RowC.turned _ _ _ h.row hl u, tp_turn h.upd hT u⟩
theorem FT.turned {F : Nat → Prop} {pb c : Nat} {r : Rul} {am : Option Addr} {mb cm n l : Nat} {Cf : List Tm × Tm → World → Prop} {φ : List HM → List HM} (hC : Turned l Cf) (hT : F l) : Turned l (FT F pb c r am mb cm n Cf φ) := fun _x _W _W' h hl u =>
  ⟨hC _ _ _ h.hc hl u, RowC.turned _ _ _ h.row hl u, tp_turn h.upd hT u⟩
/-- It stands where blocks that are no cells are turned, from B on. -/
def Bent {β : Type} (B : Nat) (C : β → World → Prop) : Prop := ∀ x W W' (S : Nat → Prop), C x W → Upd S W W' → (∀ i, S i → B ≤ i ∧ ∀ c t f, W.heap[i]? ≠ some (.cells c t f)) → C x W'
theorem Bent.mono {β : Type} {B B' : Nat} {C : β → World → Prop} (h : Bent B C) (hb : B ≤ B') : Bent B' C := fun x W W' S hc u hS => h x W W' S hc u (fun i hi => ⟨Nat.le_trans hb (hS i hi).1, (hS i hi).2⟩)
theorem Bent.turned {β : Type} {B l : Nat} {C : β → World → Prop} (h : Bent B C) (hl : B ≤ l) : Turned l C := fun x W W' hc hr u => h x W W' _ hc u (fun i e => ⟨e ▸ hl, fun c t f q => by obtain ⟨r, hr⟩ := hr; rw [e, hr] at q; cases q⟩)
/-- What holds ahead of an iterator over teams. -/
structure TmP (P : Program) (r : Rul) (x : Leg) (pb c : Nat) (am : Option Addr) (mb cm n B : Nat) (F : Nat → Prop) (l D : Nat) (C : List Tm → World → Prop) (Cf : List Tm × Tm → World → Prop) (R Rf : World → Prop) (φ : List HM → List HM) (b7 b5 b6 b4 need i0 : Nat) (nums : List Int) (an : Option Addr) (gn cn : Nat) (pl : Int) (ms : List HM) (w0 : World) : Prop where
  hr : okRul r = true
  hx : okLeg x = true
  hC : ∀ pre W W', C pre W → Upd (MB mb pb) W W' → C pre W'
  hCf : ∀ p W W', Cf p W → Upd (MB mb pb) W W' → Cf p W'
  hCt : Bent w0.heap.size C
  hCft : Bent w0.heap.size Cf
  hH : HandsL P l D encHT (YT F pb c r am mb cm n B D C) (ZT F pb c r am mb cm n C) (FT F pb c r am mb cm n Cf φ) R Rf
  h7 : Blk w0 b7 275 [.slice an nums.length cn, .int .i64 pl]
  h5 : Blk w0 b5 79 (encLeg x)
  h6 : Blk w0 b6 3 [.int .i64 (i0 : Int)]
  h4 : Blk w0 b4 159 [.pointer (some ⟨c, 0, none⟩)]
  row : RowC F pb c r am mb cm n ms w0
  num : Acc encI 1 3 pb w0 an gn cn nums
  hng : pb ≤ gn → ¬ F gn
  hF : ∀ i, F i → pb ≤ i ∧ i < w0.heap.size
  n7 : ¬ F b7
  n5 : ¬ F b5
  n4 : ¬ F b4
  nc : ¬ F c
  hFl : F l
  hFm : pb ≤ mb → F mb
  hl : l = D + 1
  hD : D + 1 < w0.heap.size
  hpb : 0 < pb ∧ pb ≤ D
  hnd : (nums.length : Int) + need = x.h
  hB : ∀ m ∈ ms, m.ts.length + need ≤ B
  hB9 : B ≤ 90
  hn : n ≤ 6
  hpl : 0 ≤ pl ∧ pl ≤ nums.length
  c0 : C [] w0
  r0 : R w0
  hφl : ∀ ms, (φ ms).length = ms.length
  hφ : ∀ ms i m, i0 ≤ i → φ (ms.set i m) = (φ ms).set i m
/-- The inner iterator's consumer. -/
structure CX (F : Nat → Prop) (pb : Nat) (wR : World) (C : List Tm → World → Prop) (R : World → Prop) (ts pre : List Tm) (W : World) : Prop where
  hc : C (ts ++ pre) W
  hr : R W
  hu : Upd (TP F pb wR) wR W
structure CfX (F : Nat → Prop) (pb : Nat) (wR : World) (Cf : List Tm × Tm → World → Prop) (Rf : World → Prop) (ts : List Tm) (p : List Tm × Tm) (W : World) : Prop where
  hc : Cf (ts ++ p.1, p.2) W
  hr : Rf W
  hu : Upd (TP F pb wR) wR W
def PX (φ : List HM → List HM) (i : Nat) (m : HM) (ms : List HM) : List HM := (φ ms).set i m
/-- How an inner range over teams ends. -/
structure EX (F G : Nat → Prop) (pb c : Nat) (r : Rul) (am : Option Addr) (mb cm n : Nat) (wR : World) (I : World → Prop) (ms : List HM) (W : World) : Prop where
  hi : I W
  row : RowC G pb c r am mb cm n ms W
  hu : Upd (TP F pb wR) wR W
theorem EX.turned {F G : Nat → Prop} {pb c : Nat} {r : Rul} {am : Option Addr} {mb cm n l : Nat} {wR : World} {I : World → Prop} {ms : List HM} (hI : Turned l (fun (_ : Unit) W => I W)) (hl : F l) : Turned l (fun (_ : Unit) W => EX F G pb c r am mb cm n wR I ms W) := fun _ _W _W' h hr u =>
  ⟨hI () _ _ h.hi hr u, RowC.turned _ _ _ h.row hr u, tp_turn h.hu hl u⟩
theorem EndT.turned {ts : List Tm} {Cf : List Tm × Tm → World → Prop} {l : Nat} (h : Turned l Cf) : Turned l (fun (_ : Unit) W => EndT ts Cf W) := fun _ _W _W' ⟨pre, v, post, e, hc⟩ hr u => ⟨pre, v, post, e, h _ _ _ hc hr u⟩
theorem EndT.mb {ts : List Tm} {Cf : List Tm × Tm → World → Prop} {mb pb : Nat} (h : ∀ p W W', Cf p W → Upd (MB mb pb) W W' → Cf p W') {W W' : World} : EndT ts Cf W → Upd (MB mb pb) W W' → EndT ts Cf W' := fun ⟨pre, v, post, e, hc⟩ u => ⟨pre, v, post, e, h _ _ _ hc u⟩
/-- A member who has a leg. -/
def HM.put (m : HM) (x : Leg) (a : Option Addr) (g c : Nat) : HM := ⟨m.f, m.u, m.ps, m.ap, m.bp, m.op, m.cp, m.ad, m.nd, m.cd, canT m.f m.u m.ts x, a, g, c⟩
theorem phi_at {φ : List HM → List HM} {i0 i : Nat} (_hl : ∀ ms, (φ ms).length = ms.length) (h : ∀ ms i m, i0 ≤ i → φ (ms.set i m) = (φ ms).set i m) {ms : List HM} (hi : i < ms.length) (h0 : i0 ≤ i) : (φ ms).set i (nth ms i) = φ ms := by
  rw [← h _ _ _ h0, set_self hi]
theorem PX.back {φ : List HM → List HM} {i0 i : Nat} (hl : ∀ ms, (φ ms).length = ms.length) (h : ∀ ms i m, i0 ≤ i → φ (ms.set i m) = (φ ms).set i m) {ms : List HM} {m : HM} (hi : i < ms.length) (h0 : i0 ≤ i) : PX φ i (nth ms i) (ms.set i m) = φ ms := by
  unfold PX; rw [h _ _ _ h0, List.set_set, phi_at hl h hi h0]
theorem PX.len {φ : List HM → List HM} {i : Nat} {m : HM} (hl : ∀ ms, (φ ms).length = ms.length) : ∀ ms, (PX φ i m ms).length = ms.length := fun ms => by unfold PX; rw [List.length_set, hl]
theorem CellsB.of {S : Nat → Prop} {B : Nat} {w : World} (h : CellsIn S w) : ∀ k, B ≤ k → k < w.heap.size → S k → ∃ cur t f, w.heap[k]? = some (.cells cur t f) := fun k _ hk hs => h k hk hs
end Go.Proofs.YtclinbbghnebaaaGreat
namespace Go.Proofs.YtclinbbghnebaaaGreat
open Go Go.RowKit Go.Proofs.Tryz
set_option maxRecDepth 10000
end Go.Proofs.YtclinbbghnebaaaGreat
namespace Go.Proofs.YtclinbbghnebaaaGreat
open Go Go.RowKit Go.Proofs.Tryz
set_option maxRecDepth 10000

/-- A row of a plan in memory. -/
structure HRK where
  xs : List Int
  ao : Option Addr
  g : Nat
  cap : Nat
instance : Inhabited HRK := ⟨⟨default, default, default, default⟩⟩
def encHRK (h : HRK) : List Value := [.slice h.ao h.xs.length h.cap]
def HT.hr (x : HT) : HRK := ⟨x.nums, x.ao, x.g, x.cap⟩
/-- A plan lies in memory. -/
structure PlanM (F : Nat → Prop) (pb : Nat) (w : World) (ap : Option Addr) (gp cp : Nat) (rows : List HRK) : Prop where
  acc : Acc encHRK 1 38 pb w ap gp cp rows
  nf : pb ≤ gp → ¬ F gp
  mem : ∀ h ∈ rows, Acc encI 1 3 pb w h.ao h.g h.cap h.xs
  mf : ∀ h ∈ rows, pb ≤ h.g → ¬ F h.g
theorem PlanM.upd {F S : Nat → Prop} {pb : Nat} {w w' : World} {ap : Option Addr} {gp cp : Nat} {rows : List HRK} (h : PlanM F pb w ap gp cp rows) (u : Upd S w w') (h1 : pb ≤ gp → ¬ S gp) (h2 : ∀ q ∈ rows, pb ≤ q.g → ¬ S q.g) : PlanM F pb w' ap gp cp rows :=
  ⟨h.acc.keep u h1, h.nf, fun q hq => (h.mem q hq).keep u (h2 q hq), h.mf⟩
theorem PlanM.ext {F : Nat → Prop} {pb : Nat} {w w' : World} {ap : Option Addr} {gp cp : Nat} {rows : List HRK} (h : PlanM F pb w ap gp cp rows) (u : Ext w w') : PlanM F pb w' ap gp cp rows := h.upd u (fun _ q => q) (fun _ _ _ q => q)
/-- The first team with which the rest has a plan. -/
def tryF (f : Tm → Nat → Option (List (List Int)) × Nat) : List Tm → Nat → Option (List (List Int)) × Nat
  | [], u => (none, u)
  | t :: ts, u => match f t u with
    | (some p, u') => (some (t.nums :: p), u')
    | (none, u') => tryF f ts u'
/-- The smallest plan, and for how many legs there was one. -/
def asgP (r : Rul) : List Leg → List Mb → Nat → Nat → Option (List (List Int)) × Nat
  | [], _, k, u => (some [], max u k)
  | x :: xs, ms, k, u => tryF (fun t u => asgP r xs t.ms (k + 1) u) (teamsP r x x.h.toNat 0 [] 0 ms) (max u k)
def FA (mb pb sb : Nat) (i : Nat) : Prop := MB mb pb i ∨ i = sb
theorem Acc.blkT {α : Type} {enc : α → List Value} {k : Nat} {e : TypeId} {base : Nat} {w : World} {ao : Option Addr} {g cap : Nat} {xs : List α} (h : Acc enc k e base w ao g cap xs) (hb : base ≤ g) : ∃ cs, Blk w g e cs := by
  rcases h.at_ with ⟨_, _, _, h1⟩ | ⟨_, _, cur, h1, _⟩
  · omega
  · exact ⟨cur.toList, by simpa [Blk] using h1⟩
theorem Blk.neT {w : World} {a b : Nat} {t t' : TypeId} {cs cs' : List Value} (h : Blk w a t cs) (h' : Blk w b t' cs') (ht : t ≠ t') : a ≠ b := fun e => by
  subst e; unfold Blk at h h'; rw [h] at h'; injection h' with h'; injection h' with _ h'; exact ht h'
theorem PlanM.push {F : Nat → Prop} {pb sb : Nat} {w w' : World} {ap ap' : Option Addr} {gp cp gp' cp' : Nat} {rows : List HRK} {y : HRK} (h : PlanM F pb w ap gp cp rows) (hs : F sb) (u : Upd (TP (fun i => i = sb) pb w) w w') (ha : Acc encHRK 1 38 pb w' ap' gp' cp' (rows ++ [y])) (hg : pb ≤ gp' → ¬ F gp') (hy : Acc encI 1 3 pb w y.ao y.g y.cap y.xs) (hyf : pb ≤ y.g → ¬ F y.g) : PlanM F pb w' ap' gp' cp' (rows ++ [y]) := by
  refine ⟨ha, hg, fun q hq => ?_, fun q hq => ?_⟩
  · rcases List.mem_append.1 hq with e | e
    · exact (h.mem q e).keep u ((h.mem q e).notTP (fun hb e2 => h.mf q e hb (e2 ▸ hs)) (by decide))
    · rw [List.mem_singleton.1 e]; exact hy.keep u (hy.notTP (fun hb e2 => hyf hb (e2 ▸ hs)) (by decide))
  · rcases List.mem_append.1 hq with e | e
    · exact h.mf q e
    · rw [List.mem_singleton.1 e]; exact hyf
/-- What holds ahead of assign. -/
structure AsgH (r : Rul) (pb c : Nat) (am : Option Addr) (mb cm n sb : Nat) (xs : List Leg) (ax : Option Addr) (bx ox cx : Nat) (ms : List HM) (rows : List HRK) (ap : Option Addr) (gp cp up : Nat) (w0 : World) : Prop where
  hr : okRul r = true
  hxs : ∀ x ∈ xs, okLeg x = true
  hB : ∀ m ∈ ms, m.ts.length + 3 * xs.length ≤ 90
  legs : Sl encLeg 7 w0 ax bx ox xs
  hcx : xs.length ≤ cx
  hbx : 0 < xs.length → ¬ FA mb pb sb bx ∧ (pb ≤ bx → ∃ t cs, t ≠ 38 ∧ Blk w0 bx t cs)
  sblk : Blk w0 sb 164 [.slice ap rows.length cp, .int .i64 (up : Int)]
  plan : PlanM (FA mb pb sb) pb w0 ap gp cp rows
  row : RowC (FA mb pb sb) pb c r am mb cm n ms w0
  hcm : pb ≤ mb → c ≠ mb
  hcs : c ≠ sb
  hsb : pb ≤ sb
  hsm : pb ≤ mb → mb ≠ sb
  hn : n ≤ 6
  hrl : rows.length + xs.length ≤ 30
  hpb : 0 < pb ∧ pb ≤ w0.heap.size
/-- What holds behind it. -/
def AsgR (r : Rul) (pb c : Nat) (am : Option Addr) (mb cm n sb : Nat) (ms : List HM) (rows : List HRK) (a : Option (List (List Int)) × Nat) (w0 : World) (v : Value) (w' : World) : Prop :=
  v = .bool a.1.isSome ∧ (∃ rows' ap' gp' cp', Blk w' sb 164 [.slice ap' (List.length rows') cp', .int .i64 (a.2 : Int)] ∧ PlanM (FA mb pb sb) pb w' ap' gp' cp' rows' ∧ (a.1 = none → rows' = rows) ∧ (∀ p, a.1 = some p → rows'.map HRK.xs = rows.map HRK.xs ++ p)) ∧ RowC (FA mb pb sb) pb c r am mb cm n ms w' ∧ Upd (TP (FA mb pb sb) pb w0) w0 w'
def TQ (F : Nat → Prop) (pb : Nat) (w : World) (i : Nat) : Prop := TP F pb w i ∨ w.heap.size ≤ i
theorem TQ.of {F : Nat → Prop} {pb : Nat} {w w' : World} (u : Ext w w') {i : Nat} (h : TP F pb w' i) : TQ F pb w i := (Nat.lt_or_ge i w.heap.size).elim (fun hi => .inl (TP.backE u hi h)) .inr
theorem TQ.not {F : Nat → Prop} {pb b : Nat} {w w' : World} {t : TypeId} {cs : List Value} (u : Ext w w') (hF : ¬ F b) (hb : b < w.heap.size) (h : Blk w' b t cs) (ht : t ≠ 38) : ¬ TQ F pb w b := by
  rintro ((q | ⟨_, cs', q⟩) | q)
  · exact hF q
  · exact absurd (show b = b from rfl) (h.neT (q.kx u) ht)
  · omega
def AsgT (r : Rul) (pb c : Nat) (am : Option Addr) (mb cm n sb : Nat) (ms : List HM) (rows : List HRK) (a : Option (List (List Int)) × Nat) (wr w0 : World) (v : Value) (w' : World) : Prop :=
  v = .bool a.1.isSome ∧ (∃ rows' ap' gp' cp', Blk w' sb 164 [.slice ap' (List.length rows') cp', .int .i64 (a.2 : Int)] ∧ PlanM (FA mb pb sb) pb w' ap' gp' cp' rows' ∧ (a.1 = none → rows' = rows) ∧ (∀ p, a.1 = some p → rows'.map HRK.xs = rows.map HRK.xs ++ p)) ∧ RowC (FA mb pb sb) pb c r am mb cm n ms w' ∧ Upd (TQ (FA mb pb sb) pb wr) w0 w'
theorem AsgR.t {r : Rul} {pb c : Nat} {am : Option Addr} {mb cm n sb : Nat} {ms : List HM} {rows : List HRK} {a : Option (List (List Int)) × Nat} {wr w0 : World} {v : Value} {w' : World} (h : AsgR r pb c am mb cm n sb ms rows a w0 v w') (u : Ext wr w0) : AsgT r pb c am mb cm n sb ms rows a wr w0 v w' := ⟨h.1, h.2.1, h.2.2.1, h.2.2.2.mono (fun _ q => TQ.of u q)⟩
/-- assign's consumer of teams. -/
structure AC (F : Nat → Prop) (f : Tm → Nat → Option (List (List Int)) × Nat) (u0 mb pb sb t6 : Nat) (rows : List HRK) (wR : World) (pre : List Tm) (W : World) : Prop where
  ex : ∃ u ap gp cp, tryF f pre u0 = (none, u) ∧ Blk W sb 164 [.slice ap rows.length cp, .int .i64 (u : Int)] ∧ PlanM (FA mb pb sb) pb W ap gp cp rows
  b6 : Blk W t6 4 [.bool false]
  hu : Upd (TP F pb wR) wR W
structure AF (F : Nat → Prop) (f : Tm → Nat → Option (List (List Int)) × Nat) (u0 mb pb sb t6 : Nat) (rows : List HRK) (wR : World) (p : List Tm × Tm) (W : World) : Prop where
  ex : ∃ u1 u q rows' ap gp cp, tryF f p.1 u0 = (none, u1) ∧ f p.2 u1 = (some q, u) ∧ Blk W sb 164 [.slice ap (List.length rows') cp, .int .i64 (u : Int)] ∧ PlanM (FA mb pb sb) pb W ap gp cp rows' ∧ rows'.map HRK.xs = rows.map HRK.xs ++ p.2.nums :: q
  b6 : Blk W t6 4 [.bool true]
  hu : Upd (TP F pb wR) wR W
theorem AC.mb {F : Nat → Prop} {f : Tm → Nat → Option (List (List Int)) × Nat} {u0 mb pb sb t6 : Nat} {rows : List HRK} {wR : World} (hsm : pb ≤ mb → mb ≠ sb) (h6 : pb ≤ mb → mb ≠ t6) (hF : pb ≤ mb → F mb) (pre : List Tm) (W W' : World) (h : AC F f u0 mb pb sb t6 rows wR pre W) (u : Upd (MB mb pb) W W') : AC F f u0 mb pb sb t6 rows wR pre W' := by
  obtain ⟨v, ap, gp, cp, h1, h3, h4⟩ := h.ex
  exact ⟨⟨v, ap, gp, cp, h1, h3.keep u (fun q => hsm (q.1 ▸ q.2) q.1.symm), h4.upd u (fun hb q => h4.nf hb (.inl q)) (fun x hx hb q => h4.mf x hx hb (.inl q))⟩, h.b6.keep u (fun q => h6 (q.1 ▸ q.2) q.1.symm), h.hu.next u (fun i _ q => .inl (q.1 ▸ hF (q.1 ▸ q.2)))⟩
theorem AF.mb {F : Nat → Prop} {f : Tm → Nat → Option (List (List Int)) × Nat} {u0 mb pb sb t6 : Nat} {rows : List HRK} {wR : World} (hsm : pb ≤ mb → mb ≠ sb) (h6 : pb ≤ mb → mb ≠ t6) (hF : pb ≤ mb → F mb) (pre : List Tm × Tm) (W W' : World) (h : AF F f u0 mb pb sb t6 rows wR pre W) (u : Upd (MB mb pb) W W') : AF F f u0 mb pb sb t6 rows wR pre W' := by
  obtain ⟨u1, v, q, rows', ap, gp, cp, h1, h2, h3, h4, h5⟩ := h.ex
  exact ⟨⟨u1, v, q, rows', ap, gp, cp, h1, h2, h3.keep u (fun q => hsm (q.1 ▸ q.2) q.1.symm), h4.upd u (fun hb q => h4.nf hb (.inl q)) (fun x hx hb q => h4.mf x hx hb (.inl q)), h5⟩, h.b6.keep u (fun q => h6 (q.1 ▸ q.2) q.1.symm), h.hu.next u (fun i _ q => .inl (q.1 ▸ hF (q.1 ▸ q.2)))⟩
end Go.Proofs.YtclinbbghnebaaaGreat
namespace Go.Proofs.YtclinbbghnebaaaGreat
open Go Go.RowKit Go.Proofs.Tryz
set_option maxRecDepth 10000

/-- A crew between calls. -/
structure CrewM (r : Rul) (pb c : Nat) (am : Option Addr) (mb cm n B : Nat) (ms : List HM) (w : World) : Prop where
  hr : okRul r = true
  row : RowC F0 pb c r am mb cm n ms w
  hn : n ≤ 6
  hB : ∀ m ∈ ms, m.ts.length ≤ B
  hpb : 0 < pb ∧ pb ≤ w.heap.size
  hc : pb ≤ c
theorem CrewM.ext {r : Rul} {pb c : Nat} {am : Option Addr} {mb cm n B : Nat} {ms : List HM} {w w' : World} (h : CrewM r pb c am mb cm n B ms w) (u : Ext w w') : CrewM r pb c am mb cm n B ms w' := ⟨h.hr, h.row.ext u, h.hn, h.hB, ⟨h.hpb.1, Nat.le_trans h.hpb.2 u.size⟩, h.hc⟩
theorem FA.mb {mb pb sb : Nat} {w w' : World} (u : Upd (TP (FA mb pb sb) pb w) w w') {w0 : World} (u0 : Ext w0 w) (hs : w0.heap.size ≤ sb) : Upd (TP (MB mb pb) pb w0) w0 w' := (u0.to (S := TP (MB mb pb) pb w0)).next u (fun i hi q => by
  have q2 := TP.backE u0 hi q
  exact q2.elim (fun q => q.elim .inl (fun e => by omega)) .inr)
/-- What is known of a crew that has just been opened. -/
theorem CrewM.open {r : Rul} {c : Nat} {am : Option Addr} {mb cm : Nat} {ms : List HM} {hs : List HS} {xs : List Leg} {w0 w' : World} (h0 : openE r (hs.map HS.slr) xs = 0) (hp : 0 < w0.heap.size) (u : Ext w0 w') (hc : w0.heap.size ≤ c) (hb : Blk w' c 267 [.int .i64 r.rest, .int .i64 r.span, .int .i64 r.work, .int .i64 r.week, .int .i64 r.ww, .slice am (List.length ms) cm]) (hrow : RowM F0 w0.heap.size w' am mb cm ms) (hm : ms.map HM.mb = hs.map (fun h => boardP h.slr)) : CrewM r w0.heap.size c am mb cm ms.length 20 ms w' := by
  obtain ⟨h1, h2, h3, h4, h5⟩ := openE_ok h0
  have hl := congrArg List.length hm
  rw [List.length_map, List.length_map] at hl
  rw [List.length_map] at h2
  refine ⟨h1, ⟨hrow, hb, rfl⟩, by omega, fun m hm2 => ?_, ⟨hp, u.size⟩, hc⟩
  have q : m.mb ∈ ms.map HM.mb := List.mem_map.2 ⟨m, hm2, rfl⟩
  rw [hm] at q
  obtain ⟨h, hh, e⟩ := List.mem_map.1 q
  have h8 := (okSlr_ok (h3 _ (List.mem_map.2 ⟨h, hh, rfl⟩))).2.2.1
  have h9 := congrArg (fun m => m.ts.length) e
  simp only [boardP, HM.mb, srt_len, List.length_map] at h9
  omega
end Go.Proofs.YtclinbbghnebaaaGreat
namespace Go.Proofs.YtclinbbghnebaaaGreat
open Go Go.RowKit Go.Proofs.Tryz
set_option maxRecDepth 10000

theorem SetI.notAcc {ks : List Int} {w : World} {r : Nat} (h : SetI ks w r) {α : Type} {enc : α → List Value} {k : Nat} {e : TypeId} {base : Nat} {ao : Option Addr} {g cap : Nat} {xs : List α} (ha : Acc enc k e base w ao g cap xs) (hb : base ≤ g) : g ≠ r := by
  obtain ⟨cs, hB⟩ := ha.blkT hb
  exact h.notBlk hB
theorem RowC.put {pb c : Nat} {r : Rul} {am : Option Addr} {mb cm n i : Nat} {ms : List HM} {m : HM} {w w' : World} (h : RowC F0 pb c r am mb cm n ms w) (u : Upd (MB mb pb) w w') (ha : Acc encHM 5 269 pb w' am mb cm (ms.set i m)) (hn : MbM F0 pb w m) : RowC F0 pb c r am mb cm n (ms.set i m) w' :=
  ⟨⟨ha, fun x hx => (List.mem_or_eq_of_mem_set hx).elim (fun q => (h.row.mem x q).rowT h.row.acc u) (fun q => q ▸ hn.rowT h.row.acc u)⟩, h.blk.keep u (fun q => h.row.acc.neBlk h.blk (by decide) (q.1 ▸ q.2) q.1.symm), by rw [List.length_set]; exact h.len⟩
/-- A list of numbers in memory. -/
structure HL where
  xs : List Int
  ao : Option Addr
  b : Nat
  o : Nat
  cap : Nat
instance : Inhabited HL := ⟨⟨default, default, default, default, default⟩⟩
end Go.Proofs.YtclinbbghnebaaaGreat
namespace Go.Proofs.YtclinbbghnebaaaGreat
open Go Go.RowKit Go.Proofs.Tryz
set_option maxRecDepth 10000

structure HC where
  pre : List (List Int)
  xs : List Int
  ao : Option Addr
  g : Nat
  cap : Nat
  w : World
def encHC (x : HC) : Value := .slice x.ao x.xs.length x.cap
structure YC (F : Nat → Prop) (pb D n m : Nat) (C : List (List Int) → World → Prop) (x : HC) (W : World) : Prop where
  hc : C x.pre W
  num : Acc encI 1 3 pb W x.ao x.g x.cap x.xs
  nf : pb ≤ x.g → ¬ F x.g
  len : x.xs.length ≤ m ∧ ∀ i ∈ x.xs, 0 ≤ i ∧ i < (n : Int)
  hD : D + 1 < W.heap.size
  upd : Upd (· = D + 1) x.w W
structure ZC (F : Nat → Prop) (pb : Nat) (C : List (List Int) → World → Prop) (x : HC) (W : World) : Prop where
  hc : C (x.pre ++ [x.xs]) W
  upd : Upd (TP F pb x.w) x.w W
structure FC (F : Nat → Prop) (pb : Nat) (Cf : List (List Int) × List Int → World → Prop) (x : HC) (W : World) : Prop where
  hc : Cf (x.pre, x.xs) W
  upd : Upd (TP F pb x.w) x.w W
def EndC (ts : List (List Int)) (Cf : List (List Int) × List Int → World → Prop) (W : World) : Prop := ∃ pre v post, ts = pre ++ v :: post ∧ Cf (pre, v) W
theorem YC.turned {F : Nat → Prop} {pb D n m : Nat} {C : List (List Int) → World → Prop} (hC : Turned (D + 1) C) : Turned (D + 1) (YC F pb D n m C) := fun _x _W _W' h hl u =>
  ⟨hC _ _ _ h.hc hl u, h.num.keep u (h.num.notLoop hl), h.nf, h.len, Nat.lt_of_lt_of_le h.hD u.size, h.upd.trans u⟩
theorem ZC.turned {F : Nat → Prop} {pb l : Nat} {C : List (List Int) → World → Prop} (hC : Turned l C) (hT : F l) : Turned l (ZC F pb C) := fun _x _W _W' h hl u => ⟨hC _ _ _ h.hc hl u, tp_turn h.upd hT u⟩
theorem FC.turned {F : Nat → Prop} {pb l : Nat} {C : List (List Int) × List Int → World → Prop} (hC : Turned l C) (hT : F l) : Turned l (FC F pb C) := fun _x _W _W' h hl u => ⟨hC _ _ _ h.hc hl u, tp_turn h.upd hT u⟩
theorem EndC.turned {ts : List (List Int)} {Cf : List (List Int) × List Int → World → Prop} {l : Nat} (h : Turned l Cf) : Turned l (fun (_ : Unit) W => EndC ts Cf W) := fun _ _W _W' ⟨pre, v, post, e, hc⟩ hr u => ⟨pre, v, post, e, h _ _ _ hc hr u⟩
/-- What holds ahead of an iterator over choices. -/
structure ChP (P : Program) (pb n : Nat) (F : Nat → Prop) (l D : Nat) (C : List (List Int) → World → Prop) (Cf : List (List Int) × List Int → World → Prop) (R Rf : World → Prop) (b4 b5 b3 m i0 : Nat) (w0 : World) : Prop where
  hC : ∀ pre W W', C pre W → Ext W W' → C pre W'
  hCf : ∀ p W W', Cf p W → Ext W W' → Cf p W'
  hCt : Bent w0.heap.size C
  hCft : Bent w0.heap.size Cf
  hH : HandsL P l D encHC (YC F pb D n m C) (ZC F pb C) (FC F pb Cf) R Rf
  h4 : Blk w0 b4 3 [.int .i64 (m : Int)]
  h5 : Blk w0 b5 3 [.int .i64 (i0 : Int)]
  h3 : Blk w0 b3 3 [.int .i64 (n : Int)]
  hF : ∀ i, F i → i < w0.heap.size
  n4 : ¬ F b4
  n3 : ¬ F b3
  hFl : F l
  hl : l = D + 1
  hD : D + 1 < w0.heap.size
  hpb : 0 < pb ∧ pb ≤ D
  hn : n ≤ 20
  hm : m ≤ 20
  hi : i0 ≤ 20
  c0 : C [] w0
  r0 : R w0
structure DX (F : Nat → Prop) (pb : Nat) (wR : World) (C : List (List Int) → World → Prop) (R : World → Prop) (ts : List (List Int)) (k : Nat) (pre : List (List Int)) (W : World) : Prop where
  hc : C (ts ++ pre.map ((k : Int) :: ·)) W
  hr : R W
  hu : Upd (TP F pb wR) wR W
structure DfX (F : Nat → Prop) (pb : Nat) (wR : World) (Cf : List (List Int) × List Int → World → Prop) (Rf : World → Prop) (ts : List (List Int)) (k : Nat) (p : List (List Int) × List Int) (W : World) : Prop where
  hc : Cf (ts ++ p.1.map ((k : Int) :: ·), (k : Int) :: p.2) W
  hr : Rf W
  hu : Upd (TP F pb wR) wR W
structure EC (F : Nat → Prop) (pb : Nat) (wR : World) (I : World → Prop) (W : World) : Prop where
  hi : I W
  hu : Upd (TP F pb wR) wR W
theorem EC.turned {F : Nat → Prop} {pb l : Nat} {wR : World} {I : World → Prop} (hI : Turned l (fun (_ : Unit) W => I W)) (hl : F l) : Turned l (fun (_ : Unit) W => EC F pb wR I W) := fun _ _W _W' h hr u => ⟨hI () _ _ h.hi hr u, tp_turn h.hu hl u⟩
end Go.Proofs.YtclinbbghnebaaaGreat
namespace Go.Proofs.YtclinbbghnebaaaGreat
open Go Go.RowKit Go.Proofs.Tryz
set_option maxRecDepth 10000

/-- The legs of these numbers. -/
def pickL (xs : List Leg) (l : List Int) : List Leg := l.map fun i => nth xs i.toNat
/-- There is a safe assignment. -/
def sfP (r : Rul) (xs : List Leg) (ms : List Mb) : Bool := (asgP r xs ms 0 0).1.isSome
/-- Short's consumer of choices. -/
structure ShC (F : Nat → Prop) (r : Rul) (xs : List Leg) (pb c : Nat) (am : Option Addr) (mb cm n : Nat) (ms : List HM) (t6 t7 : Nat) (wR : World) (pre : List (List Int)) (W : World) : Prop where
  cr : CrewM r pb c am mb cm n 20 ms W
  ok : ∀ q ∈ pre, sfP r (pickL xs q) (ms.map HM.mb) = true
  b6 : Blk W t6 38 [.slice none 0 0]
  b7 : Blk W t7 39 [.int .i64 0]
  hu : Upd (TP F pb wR) wR W
structure ShF (F : Nat → Prop) (r : Rul) (xs : List Leg) (pb mb : Nat) (ms : List HM) (t6 t7 : Nat) (wR : World) (p : List (List Int) × List Int) (W : World) : Prop where
  ok : ∀ q ∈ p.1, sfP r (pickL xs q) (ms.map HM.mb) = true
  no : sfP r (pickL xs p.2) (ms.map HM.mb) = false
  b6 : ∃ ao g cp, Blk W t6 38 [.slice ao p.2.length cp] ∧ Acc encI 1 3 pb W ao g cp p.2
  b7 : Blk W t7 39 [.int .i64 0]
  hu : Upd (TP F pb wR) wR W
theorem TP.below {mb pb b t6 t7 l : Nat} {w : World} (hb : b < pb) (h6 : b ≠ t6) (h7 : b ≠ t7) (hl : b ≠ l) : ¬ TP (FX (FX (FX (MB mb pb) t6) t7) l) pb w b := by
  intro h
  rcases h with h | ⟨h, _⟩
  · rcases h with ((h | h) | h) | h
    · have := h.1; have := h.2; omega
    · exact h6 h
    · exact h7 h
    · exact hl h
  · omega
theorem ShC.ext {F : Nat → Prop} {r : Rul} {xs : List Leg} {pb c : Nat} {am : Option Addr} {mb cm n : Nat} {ms : List HM} {t6 t7 : Nat} {wR : World} (pre : List (List Int)) (W W' : World) (h : ShC F r xs pb c am mb cm n ms t6 t7 wR pre W) (u : Ext W W') : ShC F r xs pb c am mb cm n ms t6 t7 wR pre W' := ⟨h.cr.ext u, h.ok, h.b6.kx u, h.b7.kx u, h.hu.nx u⟩
theorem ShF.ext {F : Nat → Prop} {r : Rul} {xs : List Leg} {pb mb : Nat} {ms : List HM} {t6 t7 : Nat} {wR : World} (p : List (List Int) × List Int) (W W' : World) (h : ShF F r xs pb mb ms t6 t7 wR p W) (u : Ext W W') : ShF F r xs pb mb ms t6 t7 wR p W' := by
  obtain ⟨ao, g, cp, h1, h2⟩ := h.b6
  exact ⟨h.ok, h.no, ⟨ao, g, cp, h1.kx u, h2.keep u (fun _ q => q)⟩, h.b7.kx u, h.hu.nx u⟩
end Go.Proofs.YtclinbbghnebaaaGreat
