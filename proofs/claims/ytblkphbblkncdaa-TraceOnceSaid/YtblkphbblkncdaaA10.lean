/-
  What the events write into memory. Conditions: none.
-/
import Derived.Test.YtblkphbblkncdaaA9
namespace Go.Proofs.Ytblkphbblkncdaa
open Go Go.RowKit

/-- Block b, whose cells are of type t, is none of the voyage's blocks of other types. -/
structure VNe (base pv : Nat) (V : VG) (b : Nat) (t : TypeId) : Prop where
  pv : t ≠ 118 → pv ≠ b
  bb : base ≤ b → 0 < V.bs.length → V.bb ≠ b
  pg : t ≠ 119 → base ≤ V.pg → V.pg ≠ b
  hp : t ≠ 122 → ∀ h ∈ V.hl, h.p ≠ b
  hg : t ≠ 97 → ∀ h ∈ V.hl, base ≤ h.g → h.g ≠ b
  hx : t ≠ 3 → ∀ h ∈ V.hl, ∀ x ∈ h.xs, base ≤ x.b → x.b ≠ b
  lb : t ≠ 3 → V.lb ≠ b
  r : V.r ≠ b
  dg : t ≠ 125 → base ≤ V.dg → V.dg ≠ b
  lg : t ≠ 97 → ∀ x ∈ V.ld, base ≤ x.g → x.g ≠ b
  lx : t ≠ 3 → ∀ x ∈ V.ld, ∀ y ∈ x.xs, base ≤ y.b → y.b ≠ b
theorem Voy.vne {base pv : Nat} {w : World} {V : VG} (h : Voy base pv w V) {b : Nat} {c : Array Value} {t : TypeId} {f : Nat × Nat} (hb : w.heap[b]? = some (.cells c t f)) : VNe base pv V b t := by
  have accNe : ∀ {α : Type} {enc : α → List Value} {k : Nat} {e : TypeId} {ao : Option Addr} {g cap : Nat} {xs : List α}, Acc enc k e base w ao g cap xs → t ≠ e → base ≤ g → g ≠ b := fun ha hn hg => by
    obtain ⟨_, h1⟩ := ha.own hg
    exact cells_ne h1 hb (Ne.symm hn)
  exact ⟨fun hn => cells_ne h.blk hb (Ne.symm hn), fun hge hq e => by have := h.bold hq; omega, fun hn => accNe h.pacc hn, fun hn x hx => cells_ne (h.hold x hx).blk hb (Ne.symm hn), fun hn x hx => accNe (h.hold x hx).lays.acc hn, fun hn x hx y hy => accNe ((h.hold x hx).lays.path y hy).1 hn, fun hn => cells_ne h.lblk hb (Ne.symm hn), h.seals.ne hb, fun hn => accNe h.dacc hn, fun hn x hx => accNe (h.land x hx).acc hn, fun hn x hx y hy => accNe ((h.land x hx).path y hy).1 hn⟩
theorem Voy.setMi {base pv : Nat} {w w' : World} {V : VG} (h : Voy base pv w V) {m : Int} (u : Upd (· = pv) w w') (hb : Blk w' pv 118 { V with mi := m }.cells) : Voy base pv w' { V with mi := m } := by
  have n := h.vne h.blk
  exact ⟨h.pge, hb, h.bil.keep u (n.bb h.pge), h.bold, h.pacc.keep u (n.pg (by decide)), fun x hx => (h.hold x hx).keep u (n.hp (by decide) x hx) (n.hg (by decide) x hx) (n.hx (by decide) x hx), h.pne, h.gne, h.lblk.keep u (n.lb (by decide)), h.lge, h.seals.keep u n.r, h.rge, h.dacc.keep u (n.dg (by decide)), fun x hx => (h.land x hx).keep u (n.lg (by decide) x hx) (n.lx (by decide) x hx), h.lne⟩
theorem Voy.setL {base pv : Nat} {w w' : World} {V : VG} (h : Voy base pv w V) {i : Nat} {v : Int} (u : Upd (· = V.lb) w w') (hb : Blk w' V.lb 3 ((V.ls.set i v).map (Value.int .i64))) : Voy base pv w' { V with ls := V.ls.set i v } := by
  have n := h.vne h.lblk
  have hc : ({ V with ls := V.ls.set i v } : VG).cells = V.cells := by simp [VG.cells]
  exact ⟨h.pge, by rw [hc]; exact h.blk.keep u (n.pv (by decide)), h.bil.keep u (n.bb h.lge), h.bold, h.pacc.keep u (n.pg (by decide)), fun x hx => (h.hold x hx).keep u (n.hp (by decide) x hx) (n.hg (by decide) x hx) (fun y hy hb => ((h.hold x hx).lays.path y hy).2 hb), h.pne, h.gne, hb, h.lge, h.seals.keep u n.r, h.rge, h.dacc.keep u (n.dg (by decide)), fun x hx => (h.land x hx).keep u (n.lg (by decide) x hx) (fun y hy hb => ((h.land x hx).path y hy).2 hb), h.lne⟩
theorem Voy.setS {base pv : Nat} {w w' : World} {V : VG} (h : Voy base pv w V) {sl : List Int} (u : Upd (· = V.r) w w') (hb : SetB sl w' V.r) : Voy base pv w' { V with sl := sl } := by
  have ne : ∀ b c t f, w.heap[b]? = some (.cells c t f) → b ≠ V.r := fun b c t f hc => (h.seals.ne hc).symm
  have accNe : ∀ {α : Type} {enc : α → List Value} {k : Nat} {e : TypeId} {ao : Option Addr} {g cap : Nat} {xs : List α}, Acc enc k e base w ao g cap xs → base ≤ g → g ≠ V.r := fun ha hg => by
    obtain ⟨_, h1⟩ := ha.own hg
    exact ne _ _ _ _ h1
  exact ⟨h.pge, h.blk.keep u (ne _ _ _ _ h.blk), h.bil.keep u (fun hq e => by have := h.bold hq; have := h.rge; omega), h.bold, h.pacc.keep u (accNe h.pacc), fun x hx => (h.hold x hx).keep u (ne _ _ _ _ (h.hold x hx).blk) (accNe (h.hold x hx).lays.acc) (fun y hy => accNe ((h.hold x hx).lays.path y hy).1), h.pne, h.gne, h.lblk.keep u (ne _ _ _ _ h.lblk), h.lge, hb, h.rge, h.dacc.keep u (accNe h.dacc), fun x hx => (h.land x hx).keep u (accNe (h.land x hx).acc) (fun y hy => accNe ((h.land x hx).path y hy).1), h.lne⟩
/-- One landing more. -/
theorem Voy.setD {base pv : Nat} {w w' : World} {V : VG} (h : Voy base pv w V) {da : Option Addr} {dg dc : Nat} {l : LG} (u : Upd (fun k => k = pv ∨ (k = V.dg ∧ base ≤ k)) w w') (hb : Blk w' pv 118 { V with ld := V.ld ++ [l], da := da, dg := dg, dc := dc }.cells) (ha : Acc encLG 3 125 base w' da dg dc (V.ld ++ [l]))
    (hl : LaysM base w' V.lb l.ao l.g l.cp l.xs) (hn : ∀ x ∈ V.hl, base ≤ x.g → x.g ≠ l.g) : Voy base pv w' { V with ld := V.ld ++ [l], da := da, dg := dg, dc := dc } := by
  have n := h.vne h.blk
  have no : ∀ k, k ≠ pv → (base ≤ V.dg → k ≠ V.dg) → ¬ (k = pv ∨ (k = V.dg ∧ base ≤ k)) := fun k h1 h2 e => by
    rcases e with e | e
    · exact h1 e
    · exact h2 (by omega) e.1
  have m : base ≤ V.dg → VNe base pv V V.dg 125 := fun hg => by obtain ⟨_, hc⟩ := h.dacc.own hg; exact h.vne hc
  refine ⟨h.pge, hb, h.bil.keep u (fun hq => no _ (n.bb h.pge hq) (fun hg => (m hg).bb hg hq)), h.bold, h.pacc.keep u (fun hg => no _ (n.pg (by decide) hg) (fun hd => (m hd).pg (by decide) hg)), fun x hx => (h.hold x hx).keep u (no _ (n.hp (by decide) x hx) (fun hd => (m hd).hp (by decide) x hx)) (fun hg => no _ (n.hg (by decide) x hx hg) (fun hd => (m hd).hg (by decide) x hx hg)) (fun y hy hg => no _ (n.hx (by decide) x hx y hy hg) (fun hd => (m hd).hx (by decide) x hx y hy hg)),
    h.pne, h.gne, h.lblk.keep u (no _ (n.lb (by decide)) (fun hd => (m hd).lb (by decide))), h.lge, h.seals.keep u (no _ n.r (fun hd => (m hd).r)), h.rge, ha, fun x hx => ?_, fun x hx y hy => ?_⟩
  · rcases List.mem_append.1 hx with hx | hx
    · exact (h.land x hx).keep u (fun hg => no _ (n.lg (by decide) x hx hg) (fun hd => (m hd).lg (by decide) x hx hg)) (fun y hy hg => no _ (n.lx (by decide) x hx y hy hg) (fun hd => (m hd).lx (by decide) x hx y hy hg))
    · have : x = l := by simpa using hx
      subst this; exact hl
  · rcases List.mem_append.1 hx with hx | hx
    · exact h.lne x hx y hy
    · have : x = l := by simpa using hx
      subst this; exact hn y hy
theorem VOff.none {base pv : Nat} {V : VG} : VOff base pv (fun _ => False) V := ⟨id, fun _ => id, fun _ => id, fun _ _ => ⟨id, fun _ => id, fun _ _ _ => id⟩, id, id, fun _ => id, fun _ _ => ⟨fun _ => id, fun _ _ _ => id⟩⟩
/-- A layer more on top of a hold. -/
theorem Voy.addTop {base pv : Nat} {w w' : World} {V : VG} (h : Voy base pv w V) {i : Nat} (hi : i < V.hl.length) {ao : Option Addr} {g cp : Nat} {y : HLay} (u : Upd (fun k => k = (nth V.hl i).p ∨ (k = (nth V.hl i).g ∧ base ≤ k)) w w')
    (hb : Blk w' (nth V.hl i).p 122 { nth V.hl i with ao := ao, g := g, cp := cp, xs := (nth V.hl i).xs ++ [y] }.cells) (ha : Acc encHLay 3 97 base w' ao g cp ((nth V.hl i).xs ++ [y])) (hy : PathM base w' V.lb y) (hg : g = (nth V.hl i).g ∨ w.heap.size ≤ g) :
    Voy base pv w' (V.setH i { nth V.hl i with ao := ao, g := g, cp := cp, xs := (nth V.hl i).xs ++ [y] }) := by
  have hm := h.hold _ (nth_mem hi)
  refine h.setH hi _ u (T := fun _ => False) (fun k hk => by rcases hk with e | e; exact .inl e; exact .inr (.inl e)) VOff.none rfl ⟨hb, hm.pge, ha, fun x hx => ?_⟩ (fun _ => hg)
  rcases List.mem_append.1 hx with hx | hx
  · have hp := hm.lays.path x hx
    exact hp.keep u (fun hq e => by
      rcases e with e | e
      · exact hp.1.neB hm.blk (by decide) hq e
      · exact hp.1.neA hm.lays.acc (by decide) hq (by omega) e.1)
  · have : x = y := by simpa using hx
    subst this; exact hy
/-- A hold is sealed, or its seal is broken. -/
theorem Voy.setSd {base pv : Nat} {w w' : World} {V : VG} (h : Voy base pv w V) {i : Nat} (hi : i < V.hl.length) {s : Bool} (u : Upd (· = (nth V.hl i).p) w w') (hb : Blk w' (nth V.hl i).p 122 { nth V.hl i with sealed := s }.cells) : Voy base pv w' (V.setH i { nth V.hl i with sealed := s }) := by
  have hm := h.hold _ (nth_mem hi)
  have n := h.vne hm.blk
  exact h.setH hi _ u (T := fun _ => False) (fun k hk => .inl hk) VOff.none rfl ⟨hb, hm.pge, hm.lays.keep u (n.hg (by decide) _ (nth_mem hi)) (n.hx (by decide) _ (nth_mem hi))⟩ (fun _ => .inl rfl)
/-- A loop's record is no block of a voyage. -/
theorem Voy.turn {base pv : Nat} {w : World} {V : VG} (h : Voy base pv w V) {l : Nat} (hl : ∃ r, w.heap[l]? = some (.loop r)) (hb : base ≤ l) : VOff base pv (· = l) V := by
  obtain ⟨rr, hl⟩ := hl
  have ne : ∀ b c t f, w.heap[b]? = some (.cells c t f) → b ≠ l := fun b c t f hc e => by subst e; rw [hl] at hc; cases hc
  have accNe : ∀ {α : Type} {enc : α → List Value} {k : Nat} {e : TypeId} {ao : Option Addr} {g cap : Nat} {xs : List α}, Acc enc k e base w ao g cap xs → base ≤ g → g ≠ l := fun ha hg => by
    obtain ⟨_, h1⟩ := ha.own hg
    exact ne _ _ _ _ h1
  exact ⟨ne _ _ _ _ h.blk, fun hq e => by have := h.bold hq; omega, accNe h.pacc, fun x hx => ⟨ne _ _ _ _ (h.hold x hx).blk, accNe (h.hold x hx).lays.acc, fun y hy => accNe ((h.hold x hx).lays.path y hy).1⟩, ne _ _ _ _ h.lblk, (fun e => by (obtain ⟨_, _, h1, _⟩ := h.seals; rw [e, hl] at h1; cases h1)), (accNe h.dacc), fun x hx => ⟨accNe (h.land x hx).acc, fun y hy => accNe ((h.land x hx).path y hy).1⟩⟩
theorem Acc.notLoop {α : Type} {enc : α → List Value} {k : Nat} {e : TypeId} {base : Nat} {w : World} {ao : Option Addr} {g cap l : Nat} {xs : List α} (h : Acc enc k e base w ao g cap xs) (hl : ∃ r, w.heap[l]? = some (.loop r)) (hb : base ≤ g) : g ≠ l := fun e => by
  obtain ⟨_, h1⟩ := h.own hb
  obtain ⟨r, hl⟩ := hl
  subst e; rw [hl] at h1; cases h1
theorem PathM.turned {base lb : Nat} {x : HLay} {W W' : World} {l : Nat} (h : PathM base W lb x) (hl : ∃ r, W.heap[l]? = some (.loop r)) (u : Upd (· = l) W W') : PathM base W' lb x := h.keep u (fun hb => h.1.notLoop hl hb)
theorem GrabC.turned {Z : Nat → Prop} {base pv i pf bt bs : Nat} {t : Int} {V : VG} {W W' : World} {l : Nat} (h : GrabC Z base pv i pf bt bs t V W) (hl : ∃ r, W.heap[l]? = some (.loop r)) (hb : base ≤ l) (u : Upd (· = l) W W') : GrabC Z base pv i pf bt bs t V W' :=
  ⟨h.voy.keepS u (h.voy.turn hl hb), h.hi, h.hp, h.tb.keep u (h.tb.notLoop hl), h.sb.keep u (h.sb.notLoop hl), h.off, h.zb, h.rng, h.tons⟩
theorem set_swap {V0 : VG} {i j : Nat} (hij : i ≠ j) (a a' b : HG) : ((V0.setH i a).setH j b).setH i a' = (V0.setH i a').setH j b := by
  unfold VG.setH
  simp only [VG.mk.injEq, and_self, and_true, true_and]
  rw [List.set_comm _ _ hij, List.set_set, List.set_comm _ _ hij.symm]
theorem set_again {V : VG} {j : Nat} (b b' : HG) : (V.setH j b).setH j b' = V.setH j b' := by unfold VG.setH; simp
/-- What a shift has done so far: xf is left in hold iF, xt lies in hold jT, ps have been moved. -/
def ShSt (iF jT : Nat) (V0 : VG) (t0 ev : Int) (n : Nat) (wR : World) (mid : List Lay) (t : Int) (V : VG) : Prop :=
  ∃ xf ao g cp xt ps, V = (V0.setH iF { nth V0.hl iF with xs := xf }).setH jT { nth V0.hl jT with ao := ao, g := g, cp := cp, xs := xt } ∧ (g = (nth V0.hl jT).g ∨ wR.heap.size + 1 < g) ∧ xt.map HLay.v = (nth V0.hl jT).xs.map HLay.v ++ ps.map (movL ev) ∧
    takV ((nth V0.hl iF).xs.map HLay.v) t0 = ((takV (xf.map HLay.v) t).1, ps ++ (mid ++ (takV (xf.map HLay.v) t).2)) ∧ (∀ x ∈ xf, x.v.path.length ≤ n) ∧ (xt.length : Int) ≤ sumT ((nth V0.hl jT).xs.map HLay.v) + (t0 - t - sumT mid)
structure ShS (base pv iF jT pF bt bs : Nat) (V0 : VG) (t0 ev : Int) (n : Nat) (wR : World) (mid : List Lay) (t : Int) (V : VG) (W : World) : Prop where
  gr : GrabC (· = bt) base pv iF pF bt bs t V W
  u : Upd (fun k => k = bt ∨ k = pF ∨ (k = (nth V0.hl iF).g ∧ base ≤ k) ∨ k = (nth V0.hl jT).p ∨ (k = (nth V0.hl jT).g ∧ base ≤ k) ∨ k = wR.heap.size + 1) wR W
  st : ShSt iF jT V0 t0 ev n wR mid t V
section
variable {base pv iF jT pF bt bs : Nat} {V0 : VG} {t0 ev : Int} {n : Nat} {wR : World} {mid : List Lay} {t : Int} {V : VG} {W W' : World}
theorem ShS.ext (h : ShS base pv iF jT pF bt bs V0 t0 ev n wR mid t V W) (u : Ext W W') : ShS base pv iF jT pF bt bs V0 t0 ev n wR mid t V W' := ⟨h.gr.ext u, h.u.next u (fun _ _ h => h.elim), h.st⟩
theorem ShS.turned (h : ShS base pv iF jT pF bt bs V0 t0 ev n wR mid t V W) (hl : ∃ r, W.heap[wR.heap.size + 1]? = some (.loop r)) (hb : base ≤ wR.heap.size) (u : Upd (· = wR.heap.size + 1) W W') : ShS base pv iF jT pF bt bs V0 t0 ev n wR mid t V W' :=
  ⟨h.gr.turned hl (by omega) u, h.u.trans (u.mono fun i e => .inr (.inr (.inr (.inr (.inr e))))), h.st⟩
theorem ShS.pop (h : ShS base pv iF jT pF bt bs V0 t0 ev n wR [] t V W) (hij : iF ≠ jT) (hi : iF < V0.hl.length) (h0 : 0 < t) {q : HG} (hq : nth V.hl iF = q) {part : HLay} {ys : List HLay} (hpop : Pop q.xs t part ys) (u : Upd (fun k => k = bt ∨ k = pF ∨ (k = q.g ∧ base ≤ k)) W W')
    (hg : GrabC (· = bt) base pv iF pF bt bs (t - part.v.tons) (V.setH iF { q with xs := ys }) W') : ShS base pv iF jT pF bt bs V0 t0 ev n wR [part.v] (t - part.v.tons) (V.setH iF { q with xs := ys }) W' ∧ part.v.path.length ≤ n := by
  obtain ⟨xf, ao, g, cp, xt, ps, hV, hgg, hm, ht, hpl, hl⟩ := h.st
  have hi2 : iF < (V0.setH iF { nth V0.hl iF with xs := xf }).hl.length := by rw [VG.setH_len]; exact hi
  have hqe : q = { nth V0.hl iF with xs := xf } := by rw [← hq, hV, setH_ne hij, setH_nth hi]
  subst hqe
  have hr := h.gr.rng
  rw [hq] at hr
  have hp0 : 0 < xf.length := sumT_pos (by show 0 < sumT (xf.map HLay.v); have := hr.2.1; simp only [] at this; omega)
  have htk := hpop.tak h0 hp0
  simp only [] at htk
  refine ⟨⟨hg, h.u.next u (fun i _ e => by rcases e with e | e | e; exact .inl e; exact .inr (.inl e); exact .inr (.inr (.inl e))), ys, ao, g, cp, xt, ps, ?_, hgg, hm, ?_, fun x hx => ?_, ?_⟩, ?_⟩
  · rw [hV, set_swap hij]
  · rw [ht, htk]; rfl
  · rcases hpop.mem hp0 x hx with h1 | ⟨_, rfl⟩
    · exact hpl x h1
    · have hq2 := hpl _ (topL_mem hp0); exact hq2
  · simp only [sumT] at hl ⊢; omega
  · have hto := hpl _ (topL_mem hp0)
    rcases hpop with ⟨_, rfl, _⟩ | ⟨_, rfl, _⟩
    · exact hto
    · exact hto
/-- A part that was taken has been laid on top of hold jT. -/
theorem ShS.add {part : HLay} (h : ShS base pv iF jT pF bt bs V0 t0 ev n wR [part.v] t V W) (hij : iF ≠ jT) (hj : jT < V0.hl.length) {q : HG} (hq : nth V.hl jT = q) {ao : Option Addr} {g cp ga ca : Nat} (hb0 : base ≤ W.heap.size) (hwR : wR.heap.size + 1 < W.heap.size) (hbt : bt ≤ wR.heap.size)
    (u : Upd (fun k => k = q.p ∨ (k = q.g ∧ base ≤ k)) W W') (hb : Blk W' q.p 122 { q with ao := ao, g := g, cp := cp, xs := q.xs ++ [(⟨movL ev part.v, some ⟨ga, 0, none⟩, ga, ca⟩ : HLay)] }.cells)
    (ha : Acc encHLay 3 97 base W' ao g cp (q.xs ++ [(⟨movL ev part.v, some ⟨ga, 0, none⟩, ga, ca⟩ : HLay)])) (hp : Acc encI 1 3 base W' (some ⟨ga, 0, none⟩) ga ca (part.v.path ++ [ev])) (hga : W.heap.size ≤ ga) (hg : g = q.g ∨ W.heap.size ≤ g) (htt : 1 ≤ part.v.tons) :
    ShS base pv iF jT pF bt bs V0 t0 ev n wR [] t (V.setH jT { q with ao := ao, g := g, cp := cp, xs := q.xs ++ [(⟨movL ev part.v, some ⟨ga, 0, none⟩, ga, ca⟩ : HLay)] }) W' := by
  obtain ⟨xf, ao1, g1, cp1, xt, ps, hV, hgg, hm, ht, hpl, hl⟩ := h.st
  have hjV : jT < V.hl.length := by rw [hV, VG.setH_len, VG.setH_len]; exact hj
  have hqe : q = { nth V0.hl jT with ao := ao1, g := g1, cp := cp1, xs := xt } := by rw [← hq, hV, setH_nth (by rw [VG.setH_len]; exact hj)]
  have hlb := h.gr.voy.lblk.lt
  have hpm : PathM base W' V.lb ⟨movL ev part.v, some ⟨ga, 0, none⟩, ga, ca⟩ := ⟨hp, fun _ => by show ga ≠ V.lb; omega⟩
  subst hq
  have hv := h.gr.voy.addTop hjV u hb ha hpm hg
  have hmq := h.gr.voy.hold _ (nth_mem hjV)
  have hvn := h.gr.voy.vne hmq.blk
  have hne : nth (V.setH jT { nth V.hl jT with ao := ao, g := g, cp := cp, xs := (nth V.hl jT).xs ++ [⟨movL ev part.v, some ⟨ga, 0, none⟩, ga, ca⟩] }).hl iF = nth V.hl iF := setH_ne hij
  have hoff := h.gr.off.hp _ (nth_mem hjV)
  refine ⟨⟨hv, by rw [VG.setH_len]; exact h.gr.hi, by rw [hne]; exact h.gr.hp, h.gr.tb.keep u (fun e => ?_), h.gr.sb.keep u (fun e => ?_), h.gr.off.setH hoff.1 (fun hq e => ?_) (fun x hx hq e => ?_), rfl, by rw [hne]; exact h.gr.rng, by rw [hne]; exact h.gr.tons⟩, h.u.next u (fun i hi e => ?_), xf, ao, g, cp, xt ++ [⟨movL ev part.v, some ⟨ga, 0, none⟩, ga, ca⟩], ps ++ [part.v], ?_, ?_, ?_, ?_, hpl, ?_⟩
  · rcases e with e | e
    · exact hoff.1 e.symm
    · exact hoff.2.1 (by omega) e.1.symm
  · rcases e with e | e
    · exact h.gr.sb.neT hmq.blk (by decide) e
    · exact hmq.lays.acc.neB h.gr.sb (by decide) (by omega) e.1.symm
  · rcases hg with e1 | e1
    · exact hoff.2.1 (by simp only [] at hq; omega) (by simp only [] at e; omega)
    · simp only [] at e; omega
  · rcases List.mem_append.1 hx with hx | hx
    · exact hoff.2.2 x hx hq e
    · have : x = ⟨movL ev part.v, some ⟨ga, 0, none⟩, ga, ca⟩ := by simpa using hx
      subst this
      simp only [] at e; omega
  · rw [hqe] at e
    simp only [] at e
    rcases e with e | e
    · exact .inr (.inr (.inr (.inl e)))
    · rcases hgg with h1 | h1
      · exact .inr (.inr (.inr (.inr (.inl (by omega)))))
      · omega
  · rw [hqe]; simp only []; rw [hV, set_again]
  · rw [hqe] at hg
    simp only [] at hg
    omega
  · rw [List.map_append, hm, List.map_append, List.append_assoc]; rfl
  · rw [ht, List.append_assoc]; rfl
  · simp only [sumT, List.length_append, List.length_singleton] at hl ⊢; omega
/-- What an unload has done so far. -/
def UnSt (Dd : Nat → Prop) (iF : Nat) (V0 : VG) (t0 ev port : Int) (n b10 : Nat) (wR : World) (mid : List Lay) (t : Int) (V : VG) (W : World) : Prop :=
  ∃ xf ao g cp yl ps, V = V0.setH iF { nth V0.hl iF with xs := xf } ∧ Blk W b10 125 [.int .i64 ev, .int .i64 port, .slice ao (List.length yl) cp] ∧ LaysM wR.heap.size W V0.lb ao g cp yl ∧ yl.map HLay.v = ps.map (movL ev) ∧
    takV ((nth V0.hl iF).xs.map HLay.v) t0 = ((takV (xf.map HLay.v) t).1, ps ++ (mid ++ (takV (xf.map HLay.v) t).2)) ∧ (∀ x ∈ xf, x.v.path.length ≤ n) ∧ (yl.length : Int) ≤ t0 - t - sumT mid ∧ ¬ Dd g
structure UnS (Dd : Nat → Prop) (m base pv iF pF bt bs : Nat) (V0 : VG) (t0 ev port : Int) (n b10 : Nat) (wR : World) (mid : List Lay) (t : Int) (V : VG) (W : World) : Prop where
  gr : GrabC (fun k => m ≤ k) base pv iF pF bt bs t V W
  u : Upd (fun k => k = bt ∨ k = pF ∨ (k = (nth V0.hl iF).g ∧ base ≤ k) ∨ k = b10 ∨ k = wR.heap.size + 1) wR W
  st : UnSt Dd iF V0 t0 ev port n b10 wR mid t V W
theorem UnS.ext {Dd : Nat → Prop} {port : Int} {b10 m : Nat} (h : UnS Dd m base pv iF pF bt bs V0 t0 ev port n b10 wR mid t V W) (u : Ext W W') : UnS Dd m base pv iF pF bt bs V0 t0 ev port n b10 wR mid t V W' := by
  obtain ⟨xf, ao, g, cp, yl, ps, hV, hB, hL, hr⟩ := h.st
  exact ⟨h.gr.ext u, h.u.next u (fun _ _ h => h.elim), xf, ao, g, cp, yl, ps, hV, hB.keep u id, hL.keep u (fun _ h => h) (fun _ _ _ h => h), hr⟩
theorem UnS.turned {Dd : Nat → Prop} {port : Int} {b10 m : Nat} (h : UnS Dd m base pv iF pF bt bs V0 t0 ev port n b10 wR mid t V W) (hl : ∃ r, W.heap[wR.heap.size + 1]? = some (.loop r)) (hb : base ≤ wR.heap.size) (u : Upd (· = wR.heap.size + 1) W W') : UnS Dd m base pv iF pF bt bs V0 t0 ev port n b10 wR mid t V W' := by
  obtain ⟨xf, ao, g, cp, yl, ps, hV, hB, hL, hr⟩ := h.st
  exact ⟨h.gr.turned hl (by omega) u, h.u.trans (u.mono fun i e => .inr (.inr (.inr (.inr e)))), xf, ao, g, cp, yl, ps, hV, hB.keep u (hB.notLoop hl), hL.keep u (fun hg => hL.acc.notLoop hl hg) (fun x hx hg => (hL.path x hx).1.notLoop hl hg), hr⟩
theorem UnS.pop {Dd : Nat → Prop} {port : Int} {b10 m : Nat} (h : UnS Dd m base pv iF pF bt bs V0 t0 ev port n b10 wR [] t V W) (hi : iF < V0.hl.length) (hgF : (nth V0.hl iF).g < wR.heap.size) (hpF : pF < wR.heap.size) (hbt : bt < wR.heap.size) (hb10 : b10 ≠ bt) (h0 : 0 < t) {q : HG} (hq : nth V.hl iF = q) {part : HLay} {ys : List HLay} (hpop : Pop q.xs t part ys) (u : Upd (fun k => k = bt ∨ k = pF ∨ (k = q.g ∧ base ≤ k)) W W')
    (hg : GrabC (fun k => m ≤ k) base pv iF pF bt bs (t - part.v.tons) (V.setH iF { q with xs := ys }) W') : UnS Dd m base pv iF pF bt bs V0 t0 ev port n b10 wR [part.v] (t - part.v.tons) (V.setH iF { q with xs := ys }) W' ∧ part.v.path.length ≤ n := by
  obtain ⟨xf, ao, g, cp, yl, ps, hV, hB, hL, hm, ht, hpl, hl, hDd⟩ := h.st
  have hqe : q = { nth V0.hl iF with xs := xf } := by rw [← hq, hV, setH_nth hi]
  subst hqe
  have hr := h.gr.rng
  have hmq := h.gr.voy.hold _ (nth_mem h.gr.hi)
  have hpq := h.gr.hp
  rw [hq] at hr hmq hpq
  have hp0 : 0 < xf.length := sumT_pos (by show 0 < sumT (xf.map HLay.v); have := hr.2.1; simp only [] at this; omega)
  have htk := hpop.tak h0 hp0
  simp only [] at htk
  refine ⟨⟨hg, h.u.next u (fun i _ e => by rcases e with e | e | e; exact .inl e; exact .inr (.inl e); exact .inr (.inr (.inl e))), ys, ao, g, cp, yl, ps, ?_, hB.keep u (fun e => ?_), hL.keep u (fun hq e => ?_) (fun x hx hq e => ?_), hm, ?_, fun x hx => ?_, ?_, hDd⟩, ?_⟩
  · rw [hV, set_again]
  · rcases e with e | e | e
    · exact hb10 e
    · exact hB.neT (hpq ▸ hmq.blk) (by decide) e
    · exact hmq.lays.acc.neB hB (by decide) (by omega) e.1.symm
  · rcases e with e | e | e
    · omega
    · omega
    · have := e.1; simp only [] at this; omega
  · rcases e with e | e | e
    · omega
    · omega
    · have := e.1; simp only [] at this; omega
  · rw [ht, htk]; rfl
  · rcases hpop.mem hp0 x hx with h1 | ⟨_, rfl⟩
    · exact hpl x h1
    · have hq2 := hpl _ (topL_mem hp0); exact hq2
  · simp only [sumT] at hl ⊢; omega
  · have hto := hpl _ (topL_mem hp0)
    rcases hpop with ⟨_, rfl, _⟩ | ⟨_, rfl, _⟩
    · exact hto
    · exact hto
theorem UnS.addL {Dd : Nat → Prop} {port : Int} {b10 m : Nat} {part : HLay} (h : UnS Dd m base pv iF pF bt bs V0 t0 ev port n b10 wR [part.v] t V W) {xf : List HLay} {aoL : Option Addr} {gL cpL : Nat} {yl : List HLay} {ps : List Lay} (hL : LaysM wR.heap.size W V0.lb aoL gL cpL yl) (hV : V = V0.setH iF { nth V0.hl iF with xs := xf }) (hm : yl.map HLay.v = ps.map (movL ev))
    (ht : takV ((nth V0.hl iF).xs.map HLay.v) t0 = ((takV (xf.map HLay.v) t).1, ps ++ ([part.v] ++ (takV (xf.map HLay.v) t).2))) (hpl : ∀ x ∈ xf, x.v.path.length ≤ n) (hl : (yl.length : Int) ≤ t0 - t - sumT [part.v]) {ao : Option Addr} {g cp ga ca : Nat} (hx : bt ≠ b10 ∧ bs ≠ b10 ∧ bt < wR.heap.size ∧ bs < wR.heap.size ∧ b10 < wR.heap.size ∧ m ≤ b10 ∧ m ≤ wR.heap.size ∧ V0.lb < wR.heap.size) (hwR : wR.heap.size ≤ W.heap.size)
    (u : Upd (fun k => k = b10 ∨ (k = gL ∧ wR.heap.size ≤ k)) W W') (hb : Blk W' b10 125 [.int .i64 ev, .int .i64 port, .slice ao (List.length (yl ++ [(⟨movL ev part.v, some ⟨ga, 0, none⟩, ga, ca⟩ : HLay)])) cp]) (ha : Acc encHLay 3 97 wR.heap.size W' ao g cp (yl ++ [(⟨movL ev part.v, some ⟨ga, 0, none⟩, ga, ca⟩ : HLay)]))
    (hp : Acc encI 1 3 wR.heap.size W' (some ⟨ga, 0, none⟩) ga ca (part.v.path ++ [ev])) (hga : W.heap.size ≤ ga) (htt : 1 ≤ part.v.tons) : UnS (fun _ => False) m base pv iF pF bt bs V0 t0 ev port n b10 wR [] t V W' := by
  obtain ⟨x1, x2, x3, x4, x5, x6, x7, x8⟩ := hx
  have hv := h.gr.voy.keepS u (h.gr.off.mono (fun k hk => by rcases hk with e | e <;> omega))
  refine ⟨⟨hv, h.gr.hi, h.gr.hp, h.gr.tb.keep u (fun e => by rcases e with e | e <;> omega), h.gr.sb.keep u (fun e => by rcases e with e | e <;> omega), h.gr.off, h.gr.zb, h.gr.rng, h.gr.tons⟩, h.u.next u (fun i hi e => by rcases e with e | e; exact .inr (.inr (.inr (.inl e))); omega), xf, ao, g, cp, yl ++ [(⟨movL ev part.v, some ⟨ga, 0, none⟩, ga, ca⟩ : HLay)], ps ++ [part.v], hV, hb, ⟨ha, fun x hxx => ?_⟩, ?_, ?_, hpl, ?_, id⟩
  · rcases List.mem_append.1 hxx with hxx | hxx
    · refine (hL.path x hxx).keep u (fun hq e => ?_)
      rcases e with e | e
      · omega
      · exact (hL.path x hxx).1.neA hL.acc (by decide) hq (by omega) e.1
    · have : x = ⟨movL ev part.v, some ⟨ga, 0, none⟩, ga, ca⟩ := by simpa using hxx
      subst this
      exact ⟨hp, fun _ => by show ga ≠ V0.lb; omega⟩
  · rw [List.map_append, hm, List.map_append]; rfl
  · rw [ht, List.append_assoc]; rfl
  · simp only [sumT, List.length_append, List.length_singleton] at hl ⊢; omega
theorem UnS.fresh {Dd : Nat → Prop} {port : Int} {b10 m d : Nat} (h : UnS Dd m base pv iF pF bt bs V0 t0 ev port n b10 wR mid t V W) (hd : W.heap.size ≤ d) : UnS (· = d) m base pv iF pF bt bs V0 t0 ev port n b10 wR mid t V W := by
  obtain ⟨xf, ao, g, cp, yl, ps, hV, hB, hL, hm, ht, hpl, hl, _⟩ := h.st
  exact ⟨h.gr, h.u, xf, ao, g, cp, yl, ps, hV, hB, hL, hm, ht, hpl, hl, fun e => by have := hL.acc.lt; simp only [] at e; omega⟩
end
theorem LaysM.mono {base base' : Nat} {w : World} {lb : Nat} {ao : Option Addr} {g cp : Nat} {xs : List HLay} (h : LaysM base w lb ao g cp xs) (hb : base' ≤ base) (hp : 0 < xs.length) (hx : ∀ x ∈ xs, 0 < x.v.path.length) : LaysM base' w lb ao g cp xs := by
  have mono : ∀ {α : Type} {enc : α → List Value} {k : Nat} {e : TypeId} {ao : Option Addr} {g cap : Nat} {xs : List α}, Acc enc k e base w ao g cap xs → 0 < xs.length → Acc enc k e base' w ao g cap xs := fun {α enc k e ao g cap xs} ha hq => by
    refine ⟨ha.lt, ?_⟩
    rcases ha.at_ with ⟨_, h1, _⟩ | ⟨h1, h2, h3⟩
    · subst h1; simp at hq
    · exact .inr ⟨h1, by omega, h3⟩
  refine ⟨mono h.acc hp, fun x hxx => ⟨mono (h.path x hxx).1 (hx x hxx), fun hq => (h.path x hxx).2 ?_⟩⟩
  exact (h.path x hxx).1.base_le (hx x hxx)
theorem un_close {base B : Nat} {w : World} {lb : Nat} {ao : Option Addr} {g cp n : Nat} {yl xf : List HLay} {ps l0 : List Lay} {t0 ev : Int} (h : LaysM B w lb ao g cp yl) (hm : yl.map HLay.v = ps.map (movL ev)) (ht : takV l0 t0 = ((takV (xf.map HLay.v) 0).1, ps ++ ([] ++ (takV (xf.map HLay.v) 0).2))) (hb : base ≤ B) (h0 : 0 < t0) (hs : t0 ≤ sumT l0) (hok : ∀ x ∈ l0, LayOk n x) : LaysM base w lb ao g cp yl ∧ B ≤ g := by
  rw [takV_zero _ _ (Int.le_refl 0)] at ht
  simp only [List.nil_append, List.append_nil] at ht
  have sp := (takV_spec hok (by omega) hs).2.1
  rw [ht] at sp
  have hp : 0 < yl.length := by
    rcases Nat.eq_zero_or_pos yl.length with h1 | h1
    · have e1 : yl = [] := List.eq_nil_of_length_eq_zero h1
      subst e1
      have e2 : ps = [] := by simpa using hm.symm
      subst e2
      simp [sumT] at sp; omega
    · exact h1
  refine ⟨h.mono hb hp (fun x hx => ?_), h.acc.base_le hp⟩
  have : x.v ∈ ps.map (movL ev) := by rw [← hm]; exact List.mem_map.2 ⟨x, hx, rfl⟩
  obtain ⟨y, _, e⟩ := List.mem_map.1 this
  rw [← e]; simp [movL]
theorem un_ne {V0 : VG} {iF B g : Nat} {xf : List HLay} (hi : iF < V0.hl.length) (h : ∀ x ∈ V0.hl, x.g < B) (hg : B ≤ g) : ∀ x ∈ (V0.setH iF { nth V0.hl iF with xs := xf }).hl, x.g ≠ g := fun x hx => by
  rcases mem_set hx with rfl | ⟨j, hj, _, rfl⟩
  · have := h _ (nth_mem hi); show (nth V0.hl iF).g ≠ g; omega
  · have := h _ (nth_mem hj); omega
theorem set_self {α : Type} [Inhabited α] {xs : List α} {i : Nat} (h : i < xs.length) : xs.set i (nth xs i) = xs := by
  refine List.ext_getElem? fun j => ?_
  by_cases hj : i = j
  · subst hj; rw [List.getElem?_set_self (by simpa using h), List.getElem?_eq_getElem h, nth_eq h]
  · rw [List.getElem?_set_ne hj]

end Go.Proofs.Ytblkphbblkncdaa
