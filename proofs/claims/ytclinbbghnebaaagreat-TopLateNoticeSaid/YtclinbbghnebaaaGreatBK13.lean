/-
  Part 13 of the proof: contracts and plain laws. Conditions: none.
-/
import Derived.Shelf.SlSortCmp.WholeK
import Derived.Shelf.SlSortCmp.NoneTotal
import Derived.Ground.SlsfProg
import Derived.Test.YtclinbbghnebaaaGreatProg
import Derived.Test.YtclinbbghnebaaaGreatBK12
namespace Go.Proofs.YtclinbbghnebaaaGreat
open Go Go.RowKit Go.Proofs.Tryz
set_option maxRecDepth 10000
theorem arrGo_rng {p : Int} : ∀ {rs : List Run} {t : Bnd} {B : Int}, (∀ r ∈ rs, rngRun r) → (0 ≤ t.lo ∧ t.lo ≤ B) → (0 ≤ t.hi ∧ t.hi ≤ B) → (0 ≤ (arrGo p rs t).lo ∧ (arrGo p rs t).lo ≤ B + 6005400 * rs.length) ∧ (0 ≤ (arrGo p rs t).hi ∧ (arrGo p rs t).hi ≤ B + 6005400 * rs.length)
  | [], t, B, _, h1, h2 => by simpa [arrGo] using ⟨h1, h2⟩
  | r :: rs, t, B, hr, h1, h2 => by
    have hq := hr r (by simp)
    have hw := wayTo_rng (p := p) hq
    obtain ⟨_, _, q1, q2, q3, q4⟩ := hq
    have t1 := tak_rng hw q1.1 q1.2
    have t2 := tak_rng hw q2.1 q2.2
    simp only [arrGo, List.length_cons]
    split
    · omega
    · split
      · simp only []; omega
      · have := arrGo_rng (p := p) (rs := rs) (t := ⟨t.lo + (r.wt.lo + tak (wayTo r p) r.sp.hi), t.hi + (r.wt.hi + tak (wayTo r p) r.sp.lo)⟩) (B := B + 6005400) (fun x hx => hr x (by simp [hx])) (by simp only []; omega) (by simp only []; omega)
        omega
def RStay (s : Stay) : Prop := (0 ≤ s.inn.lo ∧ s.inn.lo ≤ 200000000) ∧ (0 ≤ s.inn.hi ∧ s.inn.hi ≤ 200000000) ∧ (0 ≤ s.out.lo ∧ s.out.lo ≤ 200000000) ∧ (0 ≤ s.out.hi ∧ s.out.hi ≤ 200000000)
theorem thrS_rng {v : Voy} {n : Nar} (h : okVoy v = true) : RStay (thrS v n) := by
  have hr := okVoy_rng h
  unfold okVoy at h
  rw [Bool.and_eq_true] at h
  have h0 := h.1
  unfold okVoy0 at h0
  rw [decide_eq_true_eq] at h0
  have a1 := arrGo_rng (p := entP v n) (t := v.st) (B := 1000000) hr.run (by omega) (by omega)
  have a2 := arrGo_rng (p := leaP v n) (t := v.st) (B := 1000000) hr.run (by omega) (by omega)
  unfold RStay thrS
  split
  · unfold arr; simp only []; omega
  · simp
theorem Traf.stay {lim t : Nat} {vs : List HVoy} {ns : List Nar} {rows : List HSt} {av an ar : Option Addr} {bv ov bn on br cv cn cr : Nat} {w : World} (h : Traf lim t vs ns rows av an ar bv ov bn on br cv cn cr w) {i k : Nat} (hi : i < vs.length) (hk : k < ns.length) : (nth (nth rows i).ss k) = thrS (nth vs i).v (nth ns k) := by
  rw [h.row hi]
  unfold nth
  simp [List.getD_eq_getElem?_getD, hk]
theorem Traf.stayr {lim t : Nat} {vs : List HVoy} {ns : List Nar} {rows : List HSt} {av an ar : Option Addr} {bv ov bn on br cv cn cr : Nat} {w : World} (h : Traf lim t vs ns rows av an ar bv ov bn on br cv cn cr w) {i k : Nat} (hi : i < vs.length) (hk : k < ns.length) : RStay (nth (nth rows i).ss k) := by
  rw [h.stay hi hk]; exact thrS_rng (h.ok _ (nth_mem hi))
abbrev BB := { b : Bnd // (-1000000000 ≤ b.lo ∧ b.lo ≤ 1000000000) ∧ (-1000000000 ≤ b.hi ∧ b.hi ≤ 1000000000) }
instance : Inhabited BB := ⟨⟨⟨0, 0⟩, by decide⟩⟩
def encBB (x : BB) : List Value := [.int .i64 x.1.lo, .int .i64 x.1.hi]
def cfB (x y : BB) : Int := x.1.lo - y.1.lo
theorem cfB_lt (x y : BB) : ltOf cfB x y = decide (x.1.lo < y.1.lo) := by
  unfold ltOf cfB
  by_cases h : x.1.lo < y.1.lo
  · simp [h]; omega
  · simp [h]; omega
theorem cfB_swo : Go.Sort.SWO (ltOf cfB) where
  irrefl x := by rw [cfB_lt]; simp
  trans x y z h1 h2 := by rw [cfB_lt] at *; simp at *; omega
  ntrans x y z h1 h2 := by rw [cfB_lt] at *; simp at *; omega
section
variable {P : Program} {ops : Array Oper} {Q : Exit → Act → World → Prop} {N : Nat} {ds : List Deferred} {rest : List Oper} {L : Slots} {w : World} {rd : Option Nat} {d : Nat} {ty : TypeId} {pos : String} {aft : Array Edge} {g : Option (Nat × Bool)}
end
theorem hold1_c (x y : BB) (w0 : World) :
    CallsV Tryz.prog 149 [.agg #[.int .i64 x.1.lo, .int .i64 x.1.hi], .agg #[.int .i64 y.1.lo, .int .i64 y.1.hi]] w0 (fun v w' => (v = .int .i64 (cfB x y) ∧ Gr w0 w') ∧ Ext w0 w') := by
 have hx9 := x.2
 have hy9 := y.2
 refine f_n func149 ?_
 refine go ?_
 refine t_boxG (cs := [.int .i64 x.1.lo, .int .i64 x.1.hi]) rfl rfl rfl rfl (fun bk2 w3 ebk2 sbk2 B4 u5 Gu5 => ?_)
 refine t_boxG (cs := [.int .i64 y.1.lo, .int .i64 y.1.hi]) rfl rfl rfl rfl (fun bk7 w8 ebk7 sbk7 B9 u10 Gu10 => ?_)
 refine go ?_
 refine f_1 results149 ?_
 exact ⟨⟨rfl, (((Gr.refl _).trans Gu5).trans Gu10)⟩, u_d⟩
theorem hold1_ok : CmpOk Tryz.prog 149 encBB cfB := fun x y W => by
  refine Calls.mono (hold1_c x y W) ?_
  rintro e w' ⟨v, rfl, ⟨rfl, hg⟩, _⟩
  exact ⟨rfl, hg.grow⟩

/-- The holds that voyage j, held back by h, closes to voyage i in narrow k. -/
def clB (rows : List HSt) (hs : List Int) (i j k : Nat) : Bnd :=
  ⟨(nth (nth rows j).ss k).inn.lo + nth hs j - (nth (nth rows i).ss k).out.hi, (nth (nth rows j).ss k).out.hi + nth hs j - (nth (nth rows i).ss k).inn.lo⟩
def clL (vs : List HVoy) (ns : List Nar) (rows : List HSt) (hs : List Int) (i : Nat) (os : List Int) : List Bnd :=
  os.flatMap fun j => ((List.range ns.length).filter (barB vs ns rows i j.toNat)).map (clB rows hs i j.toNat)
theorem clL_snoc {vs : List HVoy} {ns : List Nar} {rows : List HSt} {hs : List Int} {i q : Nat} {os : List Int} (h : q < os.length) :
    clL vs ns rows hs i (os.take (q + 1)) = clL vs ns rows hs i (os.take q) ++ ((List.range ns.length).filter (barB vs ns rows i (nth os q).toNat)).map (clB rows hs i (nth os q).toNat) := by
  unfold clL; rw [take_nth h, List.flatMap_append]; simp
/-- What the range over the narrows has gathered so far. -/
def HolC (vs : List HVoy) (ns : List Nar) (rows : List HSt) (hs : List Int) (i j b12 base g2 : Nat) (cs : List BB) (wR : World) (k : Nat) (W : World) : Prop :=
  Upd (fun q => q = b12 ∨ (q = g2 ∧ base ≤ q) ∨ q = wR.heap.size + 1) wR W ∧ ∃ (ao3 : Option Addr) (g3 c3 : Nat) (cs3 : List BB), Blk W b12 297 [.slice ao3 cs3.length c3] ∧ Acc encBB 2 28 base W ao3 g3 c3 cs3 ∧
    cs3.map (·.1) = cs.map (·.1) ++ ((List.range k).filter (barB vs ns rows i j)).map (fun k => clB rows hs i j k) ∧ (g3 = g2 ∨ wR.heap.size ≤ g3) ∧ cs3.length ≤ cs.length + k
def HolY (n : Nat) (p : Nat → Bool) (T : Nat → Prop) (C : Nat → World → Prop) (x : BkE) (_ : Unit) (W : World) : Prop := x.i < n ∧ p x.i = true ∧ C x.i W ∧ Upd T x.w W
section
variable {vs : List HVoy} {ns : List Nar} {rows : List HSt} {hs : List Int} {i j b12 base g2 : Nat} {cs : List BB} {wR : World}
theorem HolC.ext (k : Nat) (W W' : World) (q : HolC vs ns rows hs i j b12 base g2 cs wR k W) (u : Ext W W') : HolC vs ns rows hs i j b12 base g2 cs wR k W' := by
  obtain ⟨h0, a, g, c, xs, h1, h2, h3, h4, h5⟩ := q
  exact ⟨h0.nx u, a, g, c, xs, h1.keep u (fun h => h), h2.keep u (fun _ h => h), h3, h4, h5⟩
theorem HolC.skip {k : Nat} {W : World} (hb : barB vs ns rows i j k = false) (q : HolC vs ns rows hs i j b12 base g2 cs wR k W) : HolC vs ns rows hs i j b12 base g2 cs wR (k + 1) W := by
  obtain ⟨h0, a, g, c, xs, h1, h2, h3, h4, h5⟩ := q
  exact ⟨h0, a, g, c, xs, h1, h2, by rw [filter_succ, if_neg (by rw [hb]; exact Bool.false_ne_true), List.append_nil]; exact h3, h4, by omega⟩
theorem Acc.noLoop {α : Type} {enc : α → List Value} {k : Nat} {e : TypeId} {base : Nat} {w : World} {ao : Option Addr} {g cap l : Nat} {xs : List α} (h : Acc enc k e base w ao g cap xs) (hl : ∃ r, w.heap[l]? = some (.loop r)) (hb : base ≤ g) : g ≠ l := fun e => by
  obtain ⟨r, hr⟩ := hl
  obtain ⟨c, t, f, hc⟩ := h.cellsIn g h.lt ⟨rfl, hb⟩
  rw [e, hr] at hc
  cases hc
theorem HolC.turned (hb : b12 < wR.heap.size) (k : Nat) (W W' : World) (q : HolC vs ns rows hs i j b12 base g2 cs wR k W) (hl : ∃ r, W.heap[wR.heap.size + 1]? = some (.loop r)) (u : Upd (· = wR.heap.size + 1) W W') : HolC vs ns rows hs i j b12 base g2 cs wR k W' := by
  obtain ⟨h0, a, g, c, xs, h1, h2, h3, h4, h5⟩ := q
  exact ⟨h0.trans (u.mono fun i e => .inr (.inr e)), a, g, c, xs, h1.keep u (by omega), h2.keep u (fun hb e => h2.noLoop hl hb e), h3, h4, h5⟩
end
/-- h is the least hold that none of these closes. -/
def HoldR (cs : List Bnd) (h : Int) : Prop := 0 ≤ h ∧ (∀ b ∈ cs, ¬ (b.lo ≤ h ∧ h ≤ b.hi)) ∧ ∀ h', 0 ≤ h' → h' < h → ∃ b ∈ cs, b.lo ≤ h' ∧ h' ≤ b.hi
def FoldR (ys : List BB) (p : Nat) (h : Int) : Prop := (∀ x ∈ ys.take p, ¬ (x.1.lo ≤ h ∧ h ≤ x.1.hi)) ∧ ∀ h', 0 ≤ h' → h' < h → ∃ x ∈ ys.take p, x.1.lo ≤ h' ∧ h' ≤ x.1.hi
theorem fold_hit {ys : List BB} {p : Nat} {h : Int} (hf : FoldR ys p h) (ha : Asc cfB ys) (hp : p < ys.length) (hh : (nth ys p).1.lo ≤ h ∧ h ≤ (nth ys p).1.hi) : FoldR ys (p + 1) ((nth ys p).1.hi + 1) := by
  rw [FoldR, take_nth hp]
  refine ⟨fun x hx => ?_, fun h' h0 h1 => ?_⟩
  · rcases List.mem_append.1 hx with hx | hx
    · have h2 := hf.1 x hx
      obtain ⟨q, hq, rfl⟩ := List.mem_iff_getElem.1 hx
      have hq' : q < p := by simp at hq; omega
      have h3 := ha q p hq' hp
      unfold cfB at h3
      rw [← nth_eq (by simpa using hq), nth_take hq'] at h2 ⊢
      omega
    · have : x = nth ys p := by simpa using hx
      subst this; omega
  · by_cases h2 : h' < h
    · obtain ⟨x, hx, hc⟩ := hf.2 h' h0 h2; exact ⟨x, by simp [hx], hc⟩
    · exact ⟨nth ys p, by simp, by omega⟩
theorem fold_miss {ys : List BB} {p : Nat} {h : Int} (hf : FoldR ys p h) (hp : p < ys.length) (hh : ¬ ((nth ys p).1.lo ≤ h ∧ h ≤ (nth ys p).1.hi)) : FoldR ys (p + 1) h := by
  rw [FoldR, take_nth hp]
  refine ⟨fun x hx => ?_, fun h' h0 h1 => ?_⟩
  · rcases List.mem_append.1 hx with hx | hx
    · exact hf.1 x hx
    · have : x = nth ys p := by simpa using hx
      subst this; exact hh
  · obtain ⟨x, hx, hc⟩ := hf.2 h' h0 h1; exact ⟨x, by simp [hx], hc⟩
theorem fold_done {ys cs : List BB} {l : List Bnd} {p : Nat} {h : Int} (hf : FoldR ys p h) (hp : ys.length ≤ p) (h0 : 0 ≤ h) (hperm : List.Perm ys cs) (hl : cs.map (·.1) = l) : HoldR l h := by
  subst hl
  rw [FoldR, List.take_of_length_le hp] at hf
  refine ⟨h0, fun b hb => ?_, fun h' h1 h2 => ?_⟩
  · obtain ⟨x, hx, rfl⟩ := List.mem_map.1 hb
    exact hf.1 x (hperm.mem_iff.2 hx)
  · obtain ⟨x, hx, hc⟩ := hf.2 h' h1 h2
    exact ⟨x.1, List.mem_map.2 ⟨x, hperm.mem_iff.1 hx, rfl⟩, hc⟩
set_option maxHeartbeats 4000000 in
theorem hold_c (lim t : Nat) (vs : List HVoy) (ns : List Nar) (rows : List HSt) (av an ar : Option Addr) (bv ov bn on br cv cn cr : Nat) (i : Nat) (os hs : List Int) (ao ah : Option Addr) (bo oo co bh oh ch : Nat) (most : Int) (w0 : World) (htr : Traf lim t vs ns rows av an ar bv ov bn on br cv cn cr w0) (hi : i < vs.length) (hos : Sl encI 1 w0 ao bo oo os) (hosr : ∀ j ∈ os, 0 ≤ j ∧ j < vs.length) (hol : os.length ≤ 12) (hhs : Sl encI 1 w0 ah bh oh hs) (hhl : hs.length = vs.length) (hhr : ∀ h ∈ hs, 0 ≤ h ∧ h ≤ 5000) :
    CallsV Tryz.prog 84 [.pointer (some ⟨t, 0, none⟩), .int .i64 (i : Int), .slice ao os.length co, .slice ah hs.length ch, .int .i64 most] w0 (fun v w' => (∃ h, v = .tuple #[.int .i64 h, .bool (decide (h ≤ most))] ∧ HoldR (clL vs ns rows hs i os) h) ∧ Ext w0 w') := by
 have hbh9 := hhs.lt (by omega)
 have hll := htr.ll
 have htl := htr.tl
 have lt0 := htr.blk.lt
 have htb := htr.blk
 have hrw := htr.rowlen
 have hri := congrArg List.length (htr.row hi)
 rw [List.length_map] at hri
 have hfew := htr.few
 refine f_enterM (N := 106) func84 rfl rfl rfl (q_of ?_)
 refine go ?_
 refine x_b fun bk2 w3 ebk2 sbk2 B4 u5 => ?_
 refine x_b fun bk7 w8 ebk7 sbk7 B9 u10 => ?_
 refine x_b fun bk12 w13 ebk12 sbk12 B14 u15 => ?_
 refine go ?_
 refine x_n fun bk18 w19 ebk18 sbk18 B20 u21 => ?_
 refine go ?_
 refine q_loopm (γ := Nat × Option Addr × Nat × Nat × List BB × List Deferred) (fun gg => [(4, .int .i64 most), (5, .pointer (some ⟨bk2, 0, none⟩)), (6, .pointer (some ⟨bk7, 0, none⟩)), (8, .pointer (some ⟨bk12, 0, none⟩)), (10, .int .i64 0), (12, .pointer (some ⟨bk18, 0, none⟩)), (20, .slice ao os.length co), (21, .int .i64 (os.length : Int)), (22, .int .i64 (gg.1 : Int))]) (fun gg => gg.2.2.2.2.2) (fun gg w => Upd (fun i => i = bk18) w19 w ∧ Blk w bk18 297 [.slice gg.2.1 gg.2.2.2.2.1.length gg.2.2.2.1] ∧ (gg.1 ≤ os.length) ∧ (gg.2.2.2.2.1.map (·.1) = clL vs ns rows hs i (os.take gg.1)) ∧ (gg.2.2.2.2.1.length ≤ 20 * gg.1) ∧ (Acc encBB 2 28 w19.heap.size w gg.2.1 gg.2.2.1 gg.2.2.2.1 gg.2.2.2.2.1) ∧ (Marks w0.heap.size gg.2.2.2.2.2 w)) (fun gg => os.length - gg.1) (0, none, 0, 0, [], []) rfl ⟨rfl, rfl, rfl, rfl, rfl, rfl, rfl, rfl, rfl, trivial⟩ ⟨Upd.refl _ _, B20, (Nat.zero_le _), rfl, (Nat.zero_le _), (Acc.nil _ _ _ _ _ (by omega) (Nat.le_refl _)), trivial⟩ ?_
 intro gg w26 hW K25 hK25
 obtain ⟨q, ao2, g2, c2, cs, dl⟩ := gg
 change WC _ _ _ _ _ _ [(4, .int .i64 most), (5, .pointer (some ⟨bk2, 0, none⟩)), (6, .pointer (some ⟨bk7, 0, none⟩)), (8, .pointer (some ⟨bk12, 0, none⟩)), (10, .int .i64 0), (12, .pointer (some ⟨bk18, 0, none⟩)), (20, .slice ao os.length co), (21, .int .i64 (os.length : Int)), (22, .int .i64 (q : Int))] _
 change Upd (fun i => i = bk18) w19 w26 ∧ Blk w26 bk18 297 [.slice ao2 cs.length c2] ∧ (q ≤ os.length) ∧ (cs.map (·.1) = clL vs ns rows hs i (os.take q)) ∧ (cs.length ≤ 20 * q) ∧ (Acc encBB 2 28 w19.heap.size w26 ao2 g2 c2 cs) ∧ (Marks w0.heap.size dl w26) at hW
 obtain ⟨u27, I28, I29, I30, I31, I32, I33⟩ := hW
 have zu27 := u27.size
 have E34 := Sc.mk ((((((Upd.refl (fun _ => False) w0).nx u5).nx u10).nx u15).nx u21).next u27 (fun i hi h => by omega))
 have hq := I29; clear I29
 have hmap := I30; clear I30
 have hcl := I31; clear I31
 have hacc := I32; clear I32
 have hmk := I33; clear I33
 have lt_g2 := hacc.lt
 refine go ?_
 refine q_p (fun g23 => ?_) fun g23 => ?_
 ·
  refine go ?_
  refine g_i q (hos.keep E34.u (fun _ h => h)) (fun _ => ?_)
  refine go ?_
  have hjr := hosr _ (nth_mem (xs := os) (i := q) (by omega))
  have hjq : (nth os q).toNat < vs.length := by omega
  have hrj := congrArg List.length (htr.row hjq)
  rw [List.length_map] at hrj
  refine x_n fun bk40 w41 ebk40 sbk40 B42 u43 => ?_
  refine x_s fun w45 sw45 B47 u46 => ?_
  iterate 7 refine st1 ?_
  refine t_same 28 (v := .int .i64 ((nth os q).toNat : Int)) rfl (congrArg (Value.int .i64) (by omega)) ?_
  refine x_c func33 rfl rfl (bars_c t i (nth os q).toNat _) ?_
  rintro _ w51 ⟨⟨b3, b4, b5, rfl, hgb3, hgb4, hgb5, hBb3, hBb4, hBb5⟩, u52⟩ zu52
  refine go ?_
  have B55 := (((I28.kx u43).keep u46 (by omega)).kx u52)
  have D56 := (((hacc.keep u43 (fun _ h => h)).keep u46 (fun hb => show ¬ (g2 = bk40) by first | omega | assumption)).keep u52 (fun _ h => h))
  have D57 := ((((((((htr.keep u5 (fun _ _ h => h)).keep u10 (fun _ _ h => h)).keep u15 (fun _ _ h => h)).keep u21 (fun _ _ h => h)).keep u27 (fun i hi => show ¬ (i = bk18) by omega)).keep u43 (fun _ _ h => h)).keep u46 (fun i hi => show ¬ (i = bk40) by omega)).keep u52 (fun _ _ h => h))
  have htR := D57
  have haR := D56
  have hbR := B55
  have hl3 := hBb3.lt
  have hl4 := hBb4.lt
  have hl5 := hBb5.lt
  have hl12 := hbR.lt
  have htl2 := htR.tl
  have htl3 := htR.ll
  have hg2l := haR.lt
  have hoR : TrafOff (fun q => q = bk18 ∨ (q = g2 ∧ w19.heap.size ≤ q) ∨ w51.heap.size ≤ q) t vs ns rows bv bn br := htr.off fun q hq => show ¬ (q = bk18 ∨ (q = g2 ∧ w19.heap.size ≤ q) ∨ w51.heap.size ≤ q) by omega
  refine WC.weak [(4, .int .i64 most), (5, .pointer (some ⟨bk2, 0, none⟩)), (6, .pointer (some ⟨bk7, 0, none⟩)), (8, .pointer (some ⟨bk12, 0, none⟩)), (10, .int .i64 0), (12, .pointer (some ⟨bk18, 0, none⟩)), (14, .pointer (some ⟨bk40, 0, none⟩)), (20, .slice ao os.length co), (21, .int .i64 (os.length : Int)), (22, .int .i64 (q : Int)), (29, .func (.func 90) #[] #[.pointer (some ⟨b3, 0, none⟩), .pointer (some ⟨b4, 0, none⟩), .pointer (some ⟨b5, 0, none⟩)])] ⟨rfl, rfl, rfl, rfl, rfl, rfl, rfl, rfl, rfl, rfl, rfl, trivial⟩ (c_rangeZ (γ := BkE) (δ := Unit) (lb := [.pointer (some ⟨b3, 0, none⟩), .pointer (some ⟨b4, 0, none⟩), .pointer (some ⟨b5, 0, none⟩)]) (enc := (fun x : BkE => .int .i64 (x.i : Int))) own90 rfl rfl (YBr ns.length w51.heap.size (barB vs ns rows i (nth os q).toNat) (fun q => q = bk18 ∨ (q = g2 ∧ w19.heap.size ≤ q) ∨ w51.heap.size ≤ q) (HolC vs ns rows hs i (nth os q).toNat bk18 w19.heap.size g2 cs w51)) (ZBr (fun q => q = bk18 ∨ (q = g2 ∧ w19.heap.size ≤ q) ∨ w51.heap.size ≤ q) (HolC vs ns rows hs i (nth os q).toNat bk18 w19.heap.size g2 cs w51)) ((HolC vs ns rows hs i (nth os q).toNat bk18 w19.heap.size g2 cs w51) ns.length) (fun x W W' q hl u => ⟨HolC.turned hl12 _ _ _ q.1 hl u, q.2.trans (u.mono fun q e => show q = bk18 ∨ (q = g2 ∧ w19.heap.size ≤ q) ∨ w51.heap.size ≤ q by omega)⟩) (fun _ W W' q hl u => HolC.turned hl12 _ _ _ q hl u) ?_ (fun x d => [(4, .int .i64 most), (5, .pointer (some ⟨bk2, 0, none⟩)), (6, .pointer (some ⟨bk7, 0, none⟩)), (8, .pointer (some ⟨bk12, 0, none⟩)), (10, .int .i64 0), (12, .pointer (some ⟨bk18, 0, none⟩)), (14, .pointer (some ⟨bk40, 0, none⟩)), (15, .int .i64 (x.i : Int)), (20, .slice ao os.length co), (21, .int .i64 (os.length : Int)), (22, .int .i64 (q : Int))]) (HolY ns.length (barB vs ns rows i (nth os q).toNat) (fun q => q = bk18 ∨ (q = g2 ∧ w19.heap.size ≤ q) ∨ w51.heap.size ≤ q) (HolC vs ns rows hs i (nth os q).toNat bk18 w19.heap.size g2 cs w51)) (fun d x W W' q hl u => ⟨q.1, q.2.1, HolC.turned hl12 _ _ _ q.2.2.1 hl u, q.2.2.2.trans (u.mono fun q e => show q = bk18 ∨ (q = g2 ∧ w19.heap.size ≤ q) ∨ w51.heap.size ≤ q by omega)⟩) ?_ ?_ ?_)
  ·
   intro l1 D R W hD hl9 hsz hE1 hH hR
   subst hD hl9
   refine (bars1_c lim t vs ns rows av an ar bv ov bn on br cv cn cr i (nth os q).toNat b3 b4 b5 _ _ (fun q => q = bk18 ∨ (q = g2 ∧ w19.heap.size ≤ q) ∨ w51.heap.size ≤ q) (HolC vs ns rows hs i (nth os q).toNat bk18 w19.heap.size g2 cs w51) R W hi hjq (fun k W W' q u => HolC.ext k W W' q u) (fun k W (qq : (HolC vs ns rows hs i (nth os q).toNat bk18 w19.heap.size g2 cs w51) k W) => (⟨htR.keepT qq.1 (htr.off fun q hq => show ¬ (q = bk18 ∨ (q = g2 ∧ w19.heap.size ≤ q) ∨ q = (w51.heap.size + 1)) by omega), hBb3.keep qq.1 (show ¬ (b3 = bk18 ∨ (b3 = g2 ∧ w19.heap.size ≤ b3) ∨ b3 = (w51.heap.size + 1)) by omega), hBb4.keep qq.1 (show ¬ (b4 = bk18 ∨ (b4 = g2 ∧ w19.heap.size ≤ b4) ∨ b4 = (w51.heap.size + 1)) by omega), hBb5.keep qq.1 (show ¬ (b5 = bk18 ∨ (b5 = g2 ∧ w19.heap.size ≤ b5) ∨ b5 = (w51.heap.size + 1)) by omega)⟩ : Traf lim t vs ns rows av an ar bv ov bn on br cv cn cr W ∧ Blk W b3 103 [.pointer (some ⟨t, 0, none⟩)] ∧ Blk W b4 3 [.int .i64 (i : Int)] ∧ Blk W b5 3 [.int .i64 ((nth os q).toNat : Int)])) (fun k W hk hb q => HolC.skip hb q) hH hoR (show ¬ (b3 = bk18 ∨ (b3 = g2 ∧ w19.heap.size ≤ b3) ∨ w51.heap.size ≤ b3) by omega) (show ¬ (b4 = bk18 ∨ (b4 = g2 ∧ w19.heap.size ≤ b4) ∨ w51.heap.size ≤ b4) by omega) (show ¬ (b5 = bk18 ∨ (b5 = g2 ∧ w19.heap.size ≤ b5) ∨ w51.heap.size ≤ b5) by omega) ?_ hR (by omega)).mono fun _ _ q => q
   exact ⟨Ext.to hE1, ao2, g2, c2, cs, hbR.keep hE1 (fun h => h), haR.keep hE1 (fun _ h => h), by simp, .inl rfl, by omega⟩
  ·
   intro lq x W K58 hI hK58
   change WC _ _ _ _ _ _ [(30, .int .i64 (x.i : Int)), (4, .int .i64 most), (5, .pointer (some ⟨bk2, 0, none⟩)), (6, .pointer (some ⟨bk7, 0, none⟩)), (8, .pointer (some ⟨bk12, 0, none⟩)), (10, .int .i64 0), (12, .pointer (some ⟨bk18, 0, none⟩)), (14, .pointer (some ⟨bk40, 0, none⟩)), (20, .slice ao os.length co), (21, .int .i64 (os.length : Int)), (22, .int .i64 (q : Int)), (29, .func (.func 90) #[] #[.pointer (some ⟨b3, 0, none⟩), .pointer (some ⟨b4, 0, none⟩), .pointer (some ⟨b5, 0, none⟩)])] _
   refine (q_of ?_)
   have E000 := Sc.mk (Upd.refl (fun _ => False) W)
   obtain ⟨hi1, hp1, hC1, hD1, hU1⟩ := hI
   refine go ?_
   exact hK58 () _ _ ⟨rfl, rfl, rfl, rfl, rfl, rfl, rfl, rfl, rfl, rfl, rfl, trivial⟩ E000.u ⟨hi1, hp1, HolC.ext _ _ _ hC1 E000.u, hU1.trans (Ext.to E000.u)⟩
  ·
   intro lq x d w59 hY
   obtain ⟨hi1, hp1, hC1, hU1⟩ := hY
   obtain ⟨u60, ao3, g3, c3, cs3, hB39, hA39, hmap3, hg3, hcl3⟩ := hC1
   have zu60 := u60.size
   have lt_g3 := hA39.lt
   have hsi := htr.stayr hi hi1
   have hsj := htr.stayr hjq hi1
   unfold RStay at hsi hsj
   have hhq := hhr _ (nth_mem (xs := hs) (i := (nth os q).toNat) (by omega))
   change WC _ _ _ _ _ _ [(4, .int .i64 most), (5, .pointer (some ⟨bk2, 0, none⟩)), (6, .pointer (some ⟨bk7, 0, none⟩)), (8, .pointer (some ⟨bk12, 0, none⟩)), (10, .int .i64 0), (12, .pointer (some ⟨bk18, 0, none⟩)), (14, .pointer (some ⟨bk40, 0, none⟩)), (15, .int .i64 (x.i : Int)), (20, .slice ao os.length co), (21, .int .i64 (os.length : Int)), (22, .int .i64 (q : Int))] _
   refine (q_of ?_)
   have hcellsR := ((hB39).cellsIn.or (hA39).cellsIn)
   refine go ?_
   refine c_drawnM follows (fun _ => False) (.look 0 (.look 1 (.look 2 (.look 3 (.look 4 (.look 5 (.look 6 (.look 7 (.look 8 (.look 9 (.look 10 (.look 11 (.look 12 (.look 13 (.look 14 (.look 15 (.look 16 (.look 17 (.look 18 (.look 19 (.act 20 (.act 21 (.act 22 (.act 23 .done .stop) .stop) .stop) (.act 21 (.act 20 (.act 22 (.act 23 .done .stop) .stop) .stop) .stop)))))))))))))))))))))) (by kernel_rfl) fun w63 u64 => ?_
   have zu64 := u64.size
   have E65 := Sc.mk (((((E34.u.nx u43).next u46 (fun i hi h => by omega)).nx u52).next u60 (fun i hi h => by omega)).nx u64)
   refine go ?_
   have D66 := ((D57.keep u60 (fun i hi => show ¬ (i = bk18 ∨ (i = g2 ∧ w19.heap.size ≤ i) ∨ i = (w51.heap.size + 1)) by omega)).keep u64 (fun _ _ h => h))
   refine y_i i D66.ssl (fun _ => ?_)
   refine go ?_
   refine y_i x.i (D66.rsl (nth rows i) (nth_mem (by omega))) (fun _ => ?_)
   refine go ?_
   refine y_i ((nth os q).toNat) D66.ssl (fun _ => ?_) (hj := (by omega))
   refine go ?_
   refine y_i x.i (D66.rsl (nth rows ((nth os q).toNat)) (nth_mem (by omega))) (fun _ => ?_)
   refine go ?_
   refine s_or ?_ ?_
   ·
    refine go ?_
    refine x_n fun bk71 w72 ebk71 sbk71 B73 u74 => ?_
    refine go ?_
    refine x_n fun bk76 w77 ebk76 sbk76 B78 u79 => ?_
    refine go ?_
    refine x_s fun w82 sw82 B84 u83 => ?_
    refine go ?_
    refine x_s fun w87 sw87 B89 u88 => ?_
    refine go ?_
    refine c_drawnM follows (fun i => (i = g3 ∧ w19.heap.size ≤ i) ∨ i = bk18) (.look 1 (.look 2 (.look 3 (.look 4 (.look 5 (.look 6 (.look 7 (.look 8 (.look 9 (.look 10 (.look 11 (.look 12 (.look 13 (.look 14 (.look 15 (.look 16 (.look 17 (.look 18 (.look 19 (.look 20 (.look 21 (.look 22 (.look 23 (.look 24 (.look 25 (.act 0 (.act 26 (.act 27 (.act 28 .done .stop) .stop) .stop) (.act 26 (.act 0 (.act 27 (.act 28 .done .stop) .stop) .stop) .stop))))))))))))))))))))))))))) (by kernel_rfl) fun w91 u92 => ?_
    have zu92 := u92.size
    have E93 := Sc.mk (((((E65.u.nx u74).nx u79).next u83 (fun i hi h => by omega)).next u88 (fun i hi h => by omega)).nx u92)
    refine go ?_
    refine y_i ((nth os q).toNat) (hhs.keep E93.u (fun _ h => h)) (fun _ => ?_) (hj := (by omega))
    refine go ?_
    refine y_i ((nth os q).toNat) (hhs.keep E93.u (fun _ h => h)) (fun _ => ?_) (hj := (by omega))
    refine go ?_
    refine s_or ?_ ?_
    ·
     refine go ?_
     refine x_l fun bk96 w97 ebk96 sbk96 B98 u99 => ?_
     refine go ?_
     have D101 := (((((((hA39.keep u64 (fun _ h => h)).keep u74 (fun _ h => h)).keep u79 (fun _ h => h)).keep u83 (fun hb => show ¬ (g3 = bk71) by first | omega | assumption)).keep u88 (fun hb => show ¬ (g3 = bk76) by first | omega | assumption)).keep u92 (fun _ h => h)).keep u99 (fun _ h => h))
     have hbb : (-1000000000 ≤ (((nth ((nth rows ((nth os q).toNat)).ss) x.i).inn.lo + (nth hs ((nth os q).toNat))) - ((nth ((nth rows i).ss) x.i).out.hi)) ∧ (((nth ((nth rows ((nth os q).toNat)).ss) x.i).inn.lo + (nth hs ((nth os q).toNat))) - ((nth ((nth rows i).ss) x.i).out.hi)) ≤ 1000000000) ∧ (-1000000000 ≤ (((nth ((nth rows ((nth os q).toNat)).ss) x.i).out.hi + (nth hs ((nth os q).toNat))) - ((nth ((nth rows i).ss) x.i).inn.lo)) ∧ (((nth ((nth rows ((nth os q).toNat)).ss) x.i).out.hi + (nth hs ((nth os q).toNat))) - ((nth ((nth rows i).ss) x.i).inn.lo)) ≤ 1000000000) := by omega
     refine t_append (z := .agg #[.int .i64 0, .int .i64 0]) (bytes := 16) (k := 2) (base := w19.heap.size) (⟨⟨(((nth ((nth rows ((nth os q).toNat)).ss) x.i).inn.lo + (nth hs ((nth os q).toNat))) - ((nth ((nth rows i).ss) x.i).out.hi)), (((nth ((nth rows ((nth os q).toNat)).ss) x.i).out.hi + (nth hs ((nth os q).toNat))) - ((nth ((nth rows i).ss) x.i).inn.lo))⟩, hbb⟩ : BB) underlying297 (by kernel_rfl) rfl (by decide) (fun _ => rfl) (by intro x; simp [encBB, Value.oneCell']) rfl rfl rfl rfl D101 B98 (by omega) (by omega) (by decide) (fun ao102 gb103 cp104 w105 A106 u107 gegb103 lngb103 => ?_)
     have zu107 := u107.size
     have lt_gb103 := A106.lt
     refine go ?_
     refine x_s fun w110 sw110 B112 u111 => ?_
     refine go ?_
     have hUr := ((((((((((Upd.refl (fun i => i = bk18 ∨ (i = g3 ∧ w19.heap.size ≤ i)) w59).nx u64).nx u74).nx u79).next u83 (fun i hi h => by omega)).next u88 (fun i hi h => by omega)).nx u92).nx u99).next u107 (fun i hi h => by omega)).next u111 (fun i hi h => by omega))
     have D114 := (A106.keep u111 (fun hb => show ¬ (gb103 = bk18) by first | omega | assumption))
     exact ⟨fun a ha => ⟨KeepsFrom.of_upd hUr hcellsR, ⟨⟨(((((((((u60.nx u64).nx u74).nx u79).next u83 (fun i hi (h : i = bk71) => show i = bk18 ∨ (i = g2 ∧ w19.heap.size ≤ i) ∨ i = (w51.heap.size + 1) by first | omega | assumption)).next u88 (fun i hi (h : i = bk76) => show i = bk18 ∨ (i = g2 ∧ w19.heap.size ≤ i) ∨ i = (w51.heap.size + 1) by first | omega | assumption)).nx u92).nx u99).next u107 (fun i hi (h : (i = g3 ∧ w19.heap.size ≤ i)) => show i = bk18 ∨ (i = g2 ∧ w19.heap.size ≤ i) ∨ i = (w51.heap.size + 1) by first | omega | assumption)).next u111 (fun i hi (h : i = bk18) => show i = bk18 ∨ (i = g2 ∧ w19.heap.size ≤ i) ∨ i = (w51.heap.size + 1) by first | omega | assumption)), ao102, gb103, cp104, (cs3 ++ [(⟨⟨(((nth ((nth rows ((nth os q).toNat)).ss) x.i).inn.lo + (nth hs ((nth os q).toNat))) - ((nth ((nth rows i).ss) x.i).out.hi)), (((nth ((nth rows ((nth os q).toNat)).ss) x.i).out.hi + (nth hs ((nth os q).toNat))) - ((nth ((nth rows i).ss) x.i).inn.lo))⟩, hbb⟩ : BB)]), B112, D114, (by rw [List.map_append, hmap3, filter_succ, if_pos hp1, List.map_append, List.append_assoc]; rfl), (by omega), (by rw [List.length_append]; show _ + 1 ≤ _; omega)⟩, hU1.trans (hUr.mono fun q h => show q = bk18 ∨ (q = g2 ∧ w19.heap.size ≤ q) ∨ w51.heap.size ≤ q by omega)⟩⟩⟩
    refine go ?_
    refine x_l fun bk115 w116 ebk115 sbk115 B117 u118 => ?_
    refine go ?_
    have D120 := (((((((hA39.keep u64 (fun _ h => h)).keep u74 (fun _ h => h)).keep u79 (fun _ h => h)).keep u83 (fun hb => show ¬ (g3 = bk71) by first | omega | assumption)).keep u88 (fun hb => show ¬ (g3 = bk76) by first | omega | assumption)).keep u92 (fun _ h => h)).keep u118 (fun _ h => h))
    have hbb : (-1000000000 ≤ (((nth ((nth rows ((nth os q).toNat)).ss) x.i).inn.lo + (nth hs ((nth os q).toNat))) - ((nth ((nth rows i).ss) x.i).out.hi)) ∧ (((nth ((nth rows ((nth os q).toNat)).ss) x.i).inn.lo + (nth hs ((nth os q).toNat))) - ((nth ((nth rows i).ss) x.i).out.hi)) ≤ 1000000000) ∧ (-1000000000 ≤ (((nth ((nth rows ((nth os q).toNat)).ss) x.i).out.hi + (nth hs ((nth os q).toNat))) - ((nth ((nth rows i).ss) x.i).inn.lo)) ∧ (((nth ((nth rows ((nth os q).toNat)).ss) x.i).out.hi + (nth hs ((nth os q).toNat))) - ((nth ((nth rows i).ss) x.i).inn.lo)) ≤ 1000000000) := by omega
    refine t_append (z := .agg #[.int .i64 0, .int .i64 0]) (bytes := 16) (k := 2) (base := w19.heap.size) (⟨⟨(((nth ((nth rows ((nth os q).toNat)).ss) x.i).inn.lo + (nth hs ((nth os q).toNat))) - ((nth ((nth rows i).ss) x.i).out.hi)), (((nth ((nth rows ((nth os q).toNat)).ss) x.i).out.hi + (nth hs ((nth os q).toNat))) - ((nth ((nth rows i).ss) x.i).inn.lo))⟩, hbb⟩ : BB) underlying297 (by kernel_rfl) rfl (by decide) (fun _ => rfl) (by intro x; simp [encBB, Value.oneCell']) rfl rfl rfl rfl D120 B117 (by omega) (by omega) (by decide) (fun ao121 gb122 cp123 w124 A125 u126 gegb122 lngb122 => ?_)
    have zu126 := u126.size
    have lt_gb122 := A125.lt
    refine go ?_
    refine x_s fun w129 sw129 B131 u130 => ?_
    refine go ?_
    have hUr := ((((((((((Upd.refl (fun i => i = bk18 ∨ (i = g3 ∧ w19.heap.size ≤ i)) w59).nx u64).nx u74).nx u79).next u83 (fun i hi h => by omega)).next u88 (fun i hi h => by omega)).nx u92).nx u118).next u126 (fun i hi h => by omega)).next u130 (fun i hi h => by omega))
    have D133 := (A125.keep u130 (fun hb => show ¬ (gb122 = bk18) by first | omega | assumption))
    exact ⟨fun a ha => ⟨KeepsFrom.of_upd hUr hcellsR, ⟨⟨(((((((((u60.nx u64).nx u74).nx u79).next u83 (fun i hi (h : i = bk71) => show i = bk18 ∨ (i = g2 ∧ w19.heap.size ≤ i) ∨ i = (w51.heap.size + 1) by first | omega | assumption)).next u88 (fun i hi (h : i = bk76) => show i = bk18 ∨ (i = g2 ∧ w19.heap.size ≤ i) ∨ i = (w51.heap.size + 1) by first | omega | assumption)).nx u92).nx u118).next u126 (fun i hi (h : (i = g3 ∧ w19.heap.size ≤ i)) => show i = bk18 ∨ (i = g2 ∧ w19.heap.size ≤ i) ∨ i = (w51.heap.size + 1) by first | omega | assumption)).next u130 (fun i hi (h : i = bk18) => show i = bk18 ∨ (i = g2 ∧ w19.heap.size ≤ i) ∨ i = (w51.heap.size + 1) by first | omega | assumption)), ao121, gb122, cp123, (cs3 ++ [(⟨⟨(((nth ((nth rows ((nth os q).toNat)).ss) x.i).inn.lo + (nth hs ((nth os q).toNat))) - ((nth ((nth rows i).ss) x.i).out.hi)), (((nth ((nth rows ((nth os q).toNat)).ss) x.i).out.hi + (nth hs ((nth os q).toNat))) - ((nth ((nth rows i).ss) x.i).inn.lo))⟩, hbb⟩ : BB)]), B131, D133, (by rw [List.map_append, hmap3, filter_succ, if_pos hp1, List.map_append, List.append_assoc]; rfl), (by omega), (by rw [List.length_append]; show _ + 1 ≤ _; omega)⟩, hU1.trans (hUr.mono fun q h => show q = bk18 ∨ (q = g2 ∧ w19.heap.size ≤ q) ∨ w51.heap.size ≤ q by omega)⟩⟩⟩
   refine go ?_
   refine x_n fun bk134 w135 ebk134 sbk134 B136 u137 => ?_
   refine go ?_
   refine x_n fun bk139 w140 ebk139 sbk139 B141 u142 => ?_
   refine go ?_
   refine x_s fun w144 sw144 B146 u145 => ?_
   refine go ?_
   refine x_s fun w149 sw149 B151 u150 => ?_
   refine go ?_
   refine c_drawnM follows (fun i => (i = g3 ∧ w19.heap.size ≤ i) ∨ i = bk18) (.look 1 (.look 2 (.look 3 (.look 4 (.look 5 (.look 6 (.look 7 (.look 8 (.look 9 (.look 10 (.look 11 (.look 12 (.look 13 (.look 14 (.look 15 (.look 16 (.look 17 (.look 18 (.look 19 (.look 20 (.look 21 (.look 22 (.look 23 (.look 24 (.look 25 (.act 0 (.act 26 (.act 27 (.act 28 .done .stop) .stop) .stop) (.act 26 (.act 0 (.act 27 (.act 28 .done .stop) .stop) .stop) .stop))))))))))))))))))))))))))) (by kernel_rfl) fun w153 u154 => ?_
   have zu154 := u154.size
   have E155 := Sc.mk (((((E65.u.nx u137).nx u142).next u145 (fun i hi h => by omega)).next u150 (fun i hi h => by omega)).nx u154)
   refine go ?_
   refine y_i ((nth os q).toNat) (hhs.keep E155.u (fun _ h => h)) (fun _ => ?_) (hj := (by omega))
   refine go ?_
   refine y_i ((nth os q).toNat) (hhs.keep E155.u (fun _ h => h)) (fun _ => ?_) (hj := (by omega))
   refine go ?_
   refine s_or ?_ ?_
   ·
    refine go ?_
    refine x_l fun bk158 w159 ebk158 sbk158 B160 u161 => ?_
    refine go ?_
    have D163 := (((((((hA39.keep u64 (fun _ h => h)).keep u137 (fun _ h => h)).keep u142 (fun _ h => h)).keep u145 (fun hb => show ¬ (g3 = bk139) by first | omega | assumption)).keep u150 (fun hb => show ¬ (g3 = bk134) by first | omega | assumption)).keep u154 (fun _ h => h)).keep u161 (fun _ h => h))
    have hbb : (-1000000000 ≤ (((nth ((nth rows ((nth os q).toNat)).ss) x.i).inn.lo + (nth hs ((nth os q).toNat))) - ((nth ((nth rows i).ss) x.i).out.hi)) ∧ (((nth ((nth rows ((nth os q).toNat)).ss) x.i).inn.lo + (nth hs ((nth os q).toNat))) - ((nth ((nth rows i).ss) x.i).out.hi)) ≤ 1000000000) ∧ (-1000000000 ≤ (((nth ((nth rows ((nth os q).toNat)).ss) x.i).out.hi + (nth hs ((nth os q).toNat))) - ((nth ((nth rows i).ss) x.i).inn.lo)) ∧ (((nth ((nth rows ((nth os q).toNat)).ss) x.i).out.hi + (nth hs ((nth os q).toNat))) - ((nth ((nth rows i).ss) x.i).inn.lo)) ≤ 1000000000) := by omega
    refine t_append (z := .agg #[.int .i64 0, .int .i64 0]) (bytes := 16) (k := 2) (base := w19.heap.size) (⟨⟨(((nth ((nth rows ((nth os q).toNat)).ss) x.i).inn.lo + (nth hs ((nth os q).toNat))) - ((nth ((nth rows i).ss) x.i).out.hi)), (((nth ((nth rows ((nth os q).toNat)).ss) x.i).out.hi + (nth hs ((nth os q).toNat))) - ((nth ((nth rows i).ss) x.i).inn.lo))⟩, hbb⟩ : BB) underlying297 (by kernel_rfl) rfl (by decide) (fun _ => rfl) (by intro x; simp [encBB, Value.oneCell']) rfl rfl rfl rfl D163 B160 (by omega) (by omega) (by decide) (fun ao164 gb165 cp166 w167 A168 u169 gegb165 lngb165 => ?_)
    have zu169 := u169.size
    have lt_gb165 := A168.lt
    refine go ?_
    refine x_s fun w172 sw172 B174 u173 => ?_
    refine go ?_
    have hUr := ((((((((((Upd.refl (fun i => i = bk18 ∨ (i = g3 ∧ w19.heap.size ≤ i)) w59).nx u64).nx u137).nx u142).next u145 (fun i hi h => by omega)).next u150 (fun i hi h => by omega)).nx u154).nx u161).next u169 (fun i hi h => by omega)).next u173 (fun i hi h => by omega))
    have D176 := (A168.keep u173 (fun hb => show ¬ (gb165 = bk18) by first | omega | assumption))
    exact ⟨fun a ha => ⟨KeepsFrom.of_upd hUr hcellsR, ⟨⟨(((((((((u60.nx u64).nx u137).nx u142).next u145 (fun i hi (h : i = bk139) => show i = bk18 ∨ (i = g2 ∧ w19.heap.size ≤ i) ∨ i = (w51.heap.size + 1) by first | omega | assumption)).next u150 (fun i hi (h : i = bk134) => show i = bk18 ∨ (i = g2 ∧ w19.heap.size ≤ i) ∨ i = (w51.heap.size + 1) by first | omega | assumption)).nx u154).nx u161).next u169 (fun i hi (h : (i = g3 ∧ w19.heap.size ≤ i)) => show i = bk18 ∨ (i = g2 ∧ w19.heap.size ≤ i) ∨ i = (w51.heap.size + 1) by first | omega | assumption)).next u173 (fun i hi (h : i = bk18) => show i = bk18 ∨ (i = g2 ∧ w19.heap.size ≤ i) ∨ i = (w51.heap.size + 1) by first | omega | assumption)), ao164, gb165, cp166, (cs3 ++ [(⟨⟨(((nth ((nth rows ((nth os q).toNat)).ss) x.i).inn.lo + (nth hs ((nth os q).toNat))) - ((nth ((nth rows i).ss) x.i).out.hi)), (((nth ((nth rows ((nth os q).toNat)).ss) x.i).out.hi + (nth hs ((nth os q).toNat))) - ((nth ((nth rows i).ss) x.i).inn.lo))⟩, hbb⟩ : BB)]), B174, D176, (by rw [List.map_append, hmap3, filter_succ, if_pos hp1, List.map_append, List.append_assoc]; rfl), (by omega), (by rw [List.length_append]; show _ + 1 ≤ _; omega)⟩, hU1.trans (hUr.mono fun q h => show q = bk18 ∨ (q = g2 ∧ w19.heap.size ≤ q) ∨ w51.heap.size ≤ q by omega)⟩⟩⟩
   refine go ?_
   refine x_l fun bk177 w178 ebk177 sbk177 B179 u180 => ?_
   refine go ?_
   have D182 := (((((((hA39.keep u64 (fun _ h => h)).keep u137 (fun _ h => h)).keep u142 (fun _ h => h)).keep u145 (fun hb => show ¬ (g3 = bk139) by first | omega | assumption)).keep u150 (fun hb => show ¬ (g3 = bk134) by first | omega | assumption)).keep u154 (fun _ h => h)).keep u180 (fun _ h => h))
   have hbb : (-1000000000 ≤ (((nth ((nth rows ((nth os q).toNat)).ss) x.i).inn.lo + (nth hs ((nth os q).toNat))) - ((nth ((nth rows i).ss) x.i).out.hi)) ∧ (((nth ((nth rows ((nth os q).toNat)).ss) x.i).inn.lo + (nth hs ((nth os q).toNat))) - ((nth ((nth rows i).ss) x.i).out.hi)) ≤ 1000000000) ∧ (-1000000000 ≤ (((nth ((nth rows ((nth os q).toNat)).ss) x.i).out.hi + (nth hs ((nth os q).toNat))) - ((nth ((nth rows i).ss) x.i).inn.lo)) ∧ (((nth ((nth rows ((nth os q).toNat)).ss) x.i).out.hi + (nth hs ((nth os q).toNat))) - ((nth ((nth rows i).ss) x.i).inn.lo)) ≤ 1000000000) := by omega
   refine t_append (z := .agg #[.int .i64 0, .int .i64 0]) (bytes := 16) (k := 2) (base := w19.heap.size) (⟨⟨(((nth ((nth rows ((nth os q).toNat)).ss) x.i).inn.lo + (nth hs ((nth os q).toNat))) - ((nth ((nth rows i).ss) x.i).out.hi)), (((nth ((nth rows ((nth os q).toNat)).ss) x.i).out.hi + (nth hs ((nth os q).toNat))) - ((nth ((nth rows i).ss) x.i).inn.lo))⟩, hbb⟩ : BB) underlying297 (by kernel_rfl) rfl (by decide) (fun _ => rfl) (by intro x; simp [encBB, Value.oneCell']) rfl rfl rfl rfl D182 B179 (by omega) (by omega) (by decide) (fun ao183 gb184 cp185 w186 A187 u188 gegb184 lngb184 => ?_)
   have zu188 := u188.size
   have lt_gb184 := A187.lt
   refine go ?_
   refine x_s fun w191 sw191 B193 u192 => ?_
   refine go ?_
   have hUr := ((((((((((Upd.refl (fun i => i = bk18 ∨ (i = g3 ∧ w19.heap.size ≤ i)) w59).nx u64).nx u137).nx u142).next u145 (fun i hi h => by omega)).next u150 (fun i hi h => by omega)).nx u154).nx u180).next u188 (fun i hi h => by omega)).next u192 (fun i hi h => by omega))
   have D195 := (A187.keep u192 (fun hb => show ¬ (gb184 = bk18) by first | omega | assumption))
   exact ⟨fun a ha => ⟨KeepsFrom.of_upd hUr hcellsR, ⟨⟨(((((((((u60.nx u64).nx u137).nx u142).next u145 (fun i hi (h : i = bk139) => show i = bk18 ∨ (i = g2 ∧ w19.heap.size ≤ i) ∨ i = (w51.heap.size + 1) by first | omega | assumption)).next u150 (fun i hi (h : i = bk134) => show i = bk18 ∨ (i = g2 ∧ w19.heap.size ≤ i) ∨ i = (w51.heap.size + 1) by first | omega | assumption)).nx u154).nx u180).next u188 (fun i hi (h : (i = g3 ∧ w19.heap.size ≤ i)) => show i = bk18 ∨ (i = g2 ∧ w19.heap.size ≤ i) ∨ i = (w51.heap.size + 1) by first | omega | assumption)).next u192 (fun i hi (h : i = bk18) => show i = bk18 ∨ (i = g2 ∧ w19.heap.size ≤ i) ∨ i = (w51.heap.size + 1) by first | omega | assumption)), ao183, gb184, cp185, (cs3 ++ [(⟨⟨(((nth ((nth rows ((nth os q).toNat)).ss) x.i).inn.lo + (nth hs ((nth os q).toNat))) - ((nth ((nth rows i).ss) x.i).out.hi)), (((nth ((nth rows ((nth os q).toNat)).ss) x.i).out.hi + (nth hs ((nth os q).toNat))) - ((nth ((nth rows i).ss) x.i).inn.lo))⟩, hbb⟩ : BB)]), B193, D195, (by rw [List.map_append, hmap3, filter_succ, if_pos hp1, List.map_append, List.append_assoc]; rfl), (by omega), (by rw [List.length_append]; show _ + 1 ≤ _; omega)⟩, hU1.trans (hUr.mono fun q h => show q = bk18 ∨ (q = g2 ∧ w19.heap.size ≤ q) ∨ w51.heap.size ≤ q by omega)⟩⟩⟩
  ·
   have D198 := (((hmk.keep u43 (CellsIn.none _)).keep u46 (B42).cellsIn).keep u52 (CellsIn.none _))
   have hmk0 := D198
   have hmc0 := (show CellsIn (fun i => i = bk18 ∨ (i = g2 ∧ w19.heap.size ≤ i) ∨ i = (w51.heap.size + 1)) w51 from fun k hk e => by
     rcases e with e | e | e
     · exact hbR.cellsIn k hk e
     · exact haR.cellsIn k hk e
     · omega)
   intro D197 w196 hD197 hE hdD197
   obtain ⟨u199, ao3, g3, c3, cs3, hB39, hA39, hmap3, hg3, hcl3⟩ := hE
   have zu199 := u199.size
   have lt_g3 := hA39.lt
   have mk201 := (hmk0.keep u199 hmc0).push (D := D197) (by omega) hdD197 (fun d hd D' e => Nat.lt_of_lt_of_le (hmk0.lt d hd D' e) hD197)
   refine go ?_
   exact hK25 (q + 1, ao3, g3, c3, cs3, (mark D197 :: dl)) _ _ (by show os.length - (q + 1) < os.length - q; omega) ⟨rfl, rfl, rfl, rfl, rfl, rfl, rfl, rfl, rfl, trivial⟩ ⟨((((u27.nx u43).next u46 (fun i hi h => by omega)).nx u52).next u199 (fun i hi h => by omega)), hB39, (by omega), (by rw [clL_snoc (by omega), ← hmap, hmap3]), (by show cs3.length ≤ 20 * (q + 1); omega), hA39, mk201⟩
 refine go ?_
 have haccS := hacc
 have hmkS0 := hmk
 refine t_call own148 rfl rfl rfl rfl (sort_c sortL 2 (by decide) isAgg28 sizeOf28 encBB (fun _ => rfl) (by intro x; simp [encBB, Value.oneCell']) cfB cfB_swo 149 own149 hold1_ok 28 w19.heap.size ao2 g2 c2 cs _ haccS (by omega)) (fun v203 w204 r206 => ?_)
 obtain ⟨ys, hperm, hasc, hays, u205, rfl⟩ := r206
 have zu205 := u205.size
 have hmkS := hmkS0.keep u205 haccS.cellsIn
 have hyl := hperm.length_eq
 have lt_g2 := hays.lt
 iterate 6 refine st1 ?_
 refine t_same 82 (v := .slice ao2 ys.length c2) rfl (by rw [hyl]) ?_
 refine go ?_
 refine x_l2 (fun _ => False) [4, 82, 83] (fun (p : Nat) (h : Int) => [(10, .int .i64 h), (84, .int .i64 (p : Int))]) (fun p h w => (p ≤ ys.length) ∧ (FoldR ys p h) ∧ (0 ≤ h ∧ h ≤ 1000000001)) (fun p h => ys.length - p) 0 0 ⟨(Nat.zero_le _), ⟨fun x hx => by simp at hx, fun h1 h2 h3 => by first | omega | (simp only [] at h3; omega)⟩, (by first | omega | (simp only []; omega))⟩ ?_
 rintro p h w211 ⟨hp, hf, hh0⟩ u212 zu212 K210 hK210
 refine go ?_
 refine q_p (fun g85 => ?_) fun g85 => ?_
 ·
  refine go ?_
  have D218 := (hays.keep u212 (fun _ h => h))
  refine g_i p (D218.sl (fun _ => rfl)) (fun _ => ?_)
  refine go ?_
  have hyb := (nth ys p).2
  refine x_n fun bk220 w221 ebk220 sbk220 B222 u223 => ?_
  refine x_s fun w225 sw225 B227 u226 => ?_
  refine go ?_
  refine t_splitp 92 rfl (fun g92 => ?_) (fun g92 => ?_)
  ·
   refine go ?_
   refine q_p (fun g97 => ?_) fun g97 => ?_
   ·
    refine go ?_
    exact hK210 (p + 1) ((nth ys p).1.hi + 1) ⟨(by omega), (fold_hit hf hasc (by omega) (by omega)), (by omega)⟩
   refine go ?_
   exact hK210 (p + 1) h ⟨(by omega), (fold_miss hf (by omega) (by omega)), (by omega)⟩
  refine go ?_
  exact hK210 (p + 1) h ⟨(by omega), (fold_miss hf (by omega) (by omega)), (by omega)⟩
 refine go ?_
 refine f_retM2 (v1 := .int .i64 h) (v2 := .bool (decide (h ≤ most))) results84 rfl rfl (hmkS.keep ((Upd.refl (fun _ => False) _).nx u212) (CellsIn.none _)) (fun w231 u232 => ?_)
 have zu232 := u232.size
 exact ⟨⟨_, rfl, fold_done hf (by omega) (by omega) hperm (by rw [hmap, List.take_of_length_le (by omega)])⟩, (((E34.u.next u205 (fun i hi h => by omega)).nx u212).next u232 (fun i hi (h : w0.heap.size ≤ i) => show False by first | omega | assumption))⟩

end Go.Proofs.YtclinbbghnebaaaGreat
namespace Go.Proofs.YtclinbbghnebaaaGreat
open Go Go.RowKit Go.Proofs.Tryz
set_option maxRecDepth 10000
/-- The first q voyages of an order have their least holds, none above most. -/
def SeqH (vs : List HVoy) (ns : List Nar) (rows : List HSt) (most : Int) (os : List Int) (q : Nat) (ls : List Int) : Prop :=
  ∀ p, p < q → HoldR (clL vs ns rows ls (nth os p).toNat (os.take p)) (nth ls (nth os p).toNat) ∧ nth ls (nth os p).toNat ≤ most
theorem nth_set_ne {ls : List Int} {i j : Nat} {v : Int} (h : i ≠ j) : nth (ls.set i v) j = nth ls j := by
  simp [nth, List.getD_eq_getElem?_getD, List.getElem?_set_ne h]
theorem nth_set_eq {ls : List Int} {i : Nat} {v : Int} (h : i < ls.length) : nth (ls.set i v) i = v := by
  simp [nth, List.getD_eq_getElem?_getD, h]
theorem clL_set {vs : List HVoy} {ns : List Nar} {rows : List HSt} {ls : List Int} {i i' : Nat} {v : Int} {os : List Int} (h : ∀ j ∈ os, j.toNat ≠ i') : clL vs ns rows (ls.set i' v) i os = clL vs ns rows ls i os := by
  unfold clL
  induction os with
  | nil => rfl
  | cons j os ih =>
    rw [List.flatMap_cons, List.flatMap_cons, ih (fun x hx => h x (by simp [hx]))]
    congr 1
    refine List.map_congr_left (fun k _ => ?_)
    unfold clB
    rw [nth_set_ne (fun e => h j (by simp) e.symm)]
theorem nodup_nth {os : List Int} (hn : os.Nodup) {p q : Nat} (h : p < q) (hq : q < os.length) : nth os p ≠ nth os q := by
  rw [nth_eq (by omega), nth_eq hq]
  exact (List.pairwise_iff_getElem.1 hn) p q (by omega) hq h
theorem mem_take_nth {os : List Int} {j : Int} {q : Nat} (h : j ∈ os.take q) : ∃ p, p < q ∧ p < os.length ∧ j = nth os p := by
  obtain ⟨p, hp, rfl⟩ := List.mem_iff_getElem.1 h
  have hp' : p < min q os.length := by simpa using hp
  exact ⟨p, by omega, by omega, by rw [nth_eq (by omega)]; simp⟩
theorem seqH_step {vs : List HVoy} {ns : List Nar} {rows : List HSt} {most : Int} {os : List Int} {q : Nat} {ls : List Int} {h : Int} (hs : SeqH vs ns rows most os q ls) (hn : os.Nodup) (hr : ∀ j ∈ os, 0 ≤ j ∧ j < vs.length) (hq : q < os.length) (hl : ls.length = vs.length)
    (hh : HoldR (clL vs ns rows ls (nth os q).toNat (os.take q)) h) (hm : h ≤ most) : SeqH vs ns rows most os (q + 1) (ls.set (nth os q).toNat h) := by
  intro p hp
  have hne : ∀ p, p < q → (nth os p).toNat ≠ (nth os q).toNat := fun p hp e => by
    have h1 := nodup_nth hn hp hq
    have h2 := hr _ (nth_mem (show p < os.length by omega))
    have h3 := hr _ (nth_mem hq)
    omega
  have hmem : ∀ p, p ≤ q → ∀ j ∈ os.take p, j.toNat ≠ (nth os q).toNat := fun p hp j hj => by
    obtain ⟨p', h1, h2, rfl⟩ := mem_take_nth hj
    exact hne p' (by omega)
  rw [clL_set (hmem p (by omega))]
  rcases Nat.lt_or_ge p q with h1 | h1
  · rw [nth_set_ne (fun e => hne p h1 e.symm)]; exact hs p h1
  · have : p = q := by omega
    subst this
    have h3 := hr _ (nth_mem hq)
    rw [nth_set_eq (by omega)]; exact ⟨hh, hm⟩
theorem set_rng {ls : List Int} {i : Nat} {v lo hi : Int} (h : ∀ x ∈ ls, lo ≤ x ∧ x ≤ hi) (hv : lo ≤ v ∧ v ≤ hi) : ∀ x ∈ ls.set i v, lo ≤ x ∧ x ≤ hi := fun x hx => by
  rcases List.mem_or_eq_of_mem_set hx with h1 | h1
  · exact h x h1
  · subst h1; exact hv
theorem Sl.subTo {α : Type} [Inhabited α] {enc : α → List Value} {k : Nat} {w : World} {ao : Option Addr} {b o : Nat} {xs : List α} (h : Sl enc k w ao b o xs) (cap n : Nat) (hc : xs.length ≤ cap) : Sl enc k w (subAddr ao cap 0 k) b o (xs.take n) := by
  have := h.sub cap 0 n hc
  simpa using this
def ordL (n : Nat) : List Int := (List.range n).map fun (k : Nat) => (k : Int)
theorem ordL_len (n : Nat) : (ordL n).length = n := by simp [ordL]
theorem ordL_succ (n : Nat) : ordL (n + 1) = ordL n ++ [(n : Int)] := by simp [ordL, List.range_succ]
theorem ordL_mem {n : Nat} : ∀ j ∈ ordL n, 0 ≤ j ∧ j < n := fun j hj => by
  simp [ordL] at hj
  obtain ⟨a, h1, rfl⟩ := hj
  omega
theorem ordL_nodup (n : Nat) : (ordL n).Nodup := by
  unfold ordL List.Nodup
  rw [List.pairwise_map]
  refine List.Pairwise.imp ?_ (List.nodup_range (n := n))
  intro a b h e
  exact h (by omega)
theorem holds_c (lim t : Nat) (vs : List HVoy) (ns : List Nar) (rows : List HSt) (av an ar : Option Addr) (bv ov bn on br cv cn cr : Nat) (os : List Int) (ao : Option Addr) (bo oo co : Nat) (most : Int) (w0 : World) (htr : Traf lim t vs ns rows av an ar bv ov bn on br cv cn cr w0) (hos : Sl encI 1 w0 ao bo oo os) (hosr : ∀ j ∈ os, 0 ≤ j ∧ j < vs.length) (hnd : os.Nodup) (hol : os.length ≤ 12) (hco : os.length ≤ co) (hmost : 0 ≤ most ∧ most ≤ 5000) :
    CallsV Tryz.prog 29 [.pointer (some ⟨t, 0, none⟩), .slice ao os.length co, .int .i64 most] w0 (fun v w' => ((∃ b ls, v = .tuple #[.slice (some ⟨b, 0, none⟩) vs.length vs.length, .int .i64 0, .bool true] ∧ Blk w' b 3 (ls.map (Value.int .i64)) ∧ ls.length = vs.length ∧ SeqH vs ns rows most os os.length ls ∧ (∀ h ∈ ls, 0 ≤ h ∧ h ≤ 5000) ∧ w0.heap.size ≤ b) ∨ (∃ (q : Nat) (ls : List Int) (hh : Int), v = .tuple #[.slice none 0 0, .int .i64 (q : Int), .bool false] ∧ q < os.length ∧ ls.length = vs.length ∧ SeqH vs ns rows most os q ls ∧ HoldR (clL vs ns rows ls (nth os q).toNat (os.take q)) hh ∧ most < hh)) ∧ Ext w0 w') := by
 have hll := htr.ll
 have htl := htr.tl
 have lt0 := htr.blk.lt
 have htb := htr.blk
 have hfew := htr.few
 refine f_n func29 ?_
 refine go ?_
 refine t_makeI (n := vs.length) underlying38 (by kernel_rfl) rfl rfl rfl rfl rfl (by omega) (fun bk3 w4 ebk3 sbk3 B5 u6 => ?_)
 refine go ?_
 refine x_l2 (fun i => i = bk3) [0, 1, 2, 17, 18] (fun (q : Nat) (ls : List Int) => [(6, .slice (some ⟨bk3, 0, none⟩) vs.length vs.length), (19, .int .i64 (q : Int))]) (fun q ls w => Blk w bk3 3 (ls.map (Value.int .i64)) ∧ (q ≤ os.length) ∧ (ls.length = vs.length) ∧ (SeqH vs ns rows most os q ls) ∧ (∀ h ∈ ls, 0 ≤ h ∧ h ≤ 5000)) (fun q ls => os.length - q) 0 (List.replicate vs.length 0) ⟨B5, (Nat.zero_le _), (by simp), (fun p hp => by cases hp), (fun h hh => by have := List.eq_of_mem_replicate hh; omega)⟩ ?_
 rintro q ls w11 ⟨I13, hq, hll2, hseq, hlr⟩ u12 zu12 K10 hK10
 have E14 := Sc.mk (((Upd.refl (fun _ => False) w0).nx u6).next u12 (fun i hi h => by omega))
 refine go ?_
 refine q_p (fun g20 => ?_) fun g20 => ?_
 ·
  have hir := hosr _ (nth_mem (xs := os) (i := q) (by omega))
  refine go ?_
  refine g_i q (hos.keep E14.u (fun _ h => h)) (fun _ => ?_)
  iterate 11 refine st1 ?_
  refine t_same 28 (v := .int .i64 ((nth os q).toNat : Int)) rfl (congrArg (Value.int .i64) (by omega)) ?_
  refine go ?_
  refine t_sliceTo ((os.take q).length) underlying38 sizeOf3 rfl rfl rfl rfl (by rw [List.length_take]; omega) (by rw [List.length_take]; omega) ?_
  refine go ?_
  have D21 := ((htr.keep u6 (fun _ _ h => h)).keep u12 (fun i hi => show ¬ (i = bk3) by omega))
  refine x_c func84 rfl rfl (by have h := hold_c lim t vs ns rows av an ar bv ov bn on br cv cn cr (nth os q).toNat (os.take q) ls _ _ _ _ co _ _ vs.length most _ D21 (by omega) (Sl.subTo (hos.keep E14.u (fun _ h => h)) co q hco) (fun j hj => hosr j (List.mem_of_mem_take hj)) (by rw [List.length_take]; omega) (SlI.own I13) hll2 hlr; rw [hll2] at h; exact h) ?_
  rintro _ w23 ⟨⟨hh, rfl, hhr1⟩, u24⟩ zu24
  refine go ?_
  have B27 := (I13.kx u24)
  refine g_i ((nth os q).toNat) (SlI.own B27) (fun _ => ?_) (hj := (by omega))
  refine t_storeI (ls := ls) (v := hh) ((nth os q).toNat) sizeOf3 rfl rfl rfl B27 (by omega) (fun w29 sw29 B31 u30 => ?_)
  refine go ?_
  refine q_p (fun g39 => ?_) fun g39 => ?_
  ·
   refine go ?_
   refine f_ret3 (v1 := .slice none 0 0) (v2 := .int .i64 (q : Int)) (v3 := .bool false) results29 rfl rfl rfl ?_
   exact ⟨.inr ⟨q, ls, hh, rfl, (by omega), hll2, hseq, hhr1, (by omega)⟩, u_d⟩
  refine go ?_
  exact hK10 (q + 1) (ls.set ((nth os q).toNat) hh) ⟨B31, (by omega), (by show (ls.set _ _).length = vs.length; rw [List.length_set]; exact hll2), (seqH_step hseq hnd hosr (by omega) hll2 hhr1 (by omega)), (set_rng hlr (by have := hhr1.1; omega))⟩
 refine go ?_
 refine f_ret3 (v1 := .slice (some ⟨bk3, 0, none⟩) vs.length vs.length) (v2 := .int .i64 0) (v3 := .bool true) results29 rfl rfl rfl ?_
 exact ⟨.inl ⟨_, ls, rfl, I13, hll2, (by rw [← show q = os.length from by omega]; exact hseq), hlr, (by omega)⟩, u_d⟩
theorem Holds_c (vs : List HVoy) (ns : List Nar) (av an : Option Addr) (bv ov bn on cv cn : Nat) (most : Int) (w0 : World) (hs : Sl encHVoy 5 w0 av bv ov vs) (hruns : ∀ x ∈ vs, Sl encRun 6 w0 x.ao x.b x.o x.v.runs) (hrl : ∀ x ∈ vs, x.v.runs.length ≤ 1000000) (hn : Sl encNar 4 w0 an bn on ns) (hvl : vs.length ≤ 1000000) (hnl : ns.length ≤ 1000000) :
    CallsV Tryz.prog 8 [.slice av vs.length cv, .slice an ns.length cn, .int .i64 most] w0 (fun v w' => ((OpenE (vs.map HVoy.v) ns ≠ 0 ∧ v = .tuple #[.slice none 0 0, .int .i64 0, .int .i64 (OpenE (vs.map HVoy.v) ns)]) ∨ (OpenE (vs.map HVoy.v) ns = 0 ∧ ¬ (0 ≤ most ∧ most ≤ 5000) ∧ v = .tuple #[.slice none 0 0, .int .i64 0, .int .i64 3]) ∨ (OpenE (vs.map HVoy.v) ns = 0 ∧ (0 ≤ most ∧ most ≤ 5000) ∧ ∃ rows : List HSt, rows.map (·.ss) = vs.map (fun h => ns.map (thrS h.v)) ∧ ((∃ b ls, v = .tuple #[.slice (some ⟨b, 0, none⟩) vs.length vs.length, .int .i64 0, .int .i64 0] ∧ Blk w' b 3 (ls.map (Value.int .i64)) ∧ ls.length = vs.length ∧ SeqH vs ns rows most (ordL vs.length) vs.length ls ∧ (∀ h ∈ ls, 0 ≤ h ∧ h ≤ 5000)) ∨ (∃ (q : Nat) (ls : List Int) (hh : Int), v = .tuple #[.slice none 0 0, .int .i64 (q : Int), .int .i64 7] ∧ q < vs.length ∧ ls.length = vs.length ∧ SeqH vs ns rows most (ordL vs.length) q ls ∧ HoldR (clL vs ns rows ls (nth (ordL vs.length) q).toNat ((ordL vs.length).take q)) hh ∧ most < hh)))) ∧ Ext w0 w') := by
 refine f_n func8 ?_
 refine go ?_
 refine t_call own27 rfl rfl rfl rfl (open_cV vs ns av an bv ov bn on cv cn _ hs (fun x hx => (hruns x hx).keep (Upd.refl (fun _ => False) w0) (fun _ h => h)) hrl hn hvl hnl) (fun v3 w4 r6 => ?_)
 obtain ⟨p, rfl, hop, _, u5⟩ := r6
 have zu5 := u5.size
 refine go ?_
 refine q_p (fun g19 => ?_) fun g19 => ?_
 ·
  refine go ?_
  refine f_ret3 (v1 := .slice none 0 0) (v2 := .int .i64 0) (v3 := .int .i64 (OpenE (vs.map HVoy.v) ns)) results8 rfl rfl rfl ?_
  exact ⟨.inl ⟨g19, rfl⟩, u_d⟩
 have hE : OpenE (vs.map HVoy.v) ns = 0 := Decidable.not_not.1 g19
 obtain ⟨t, rows, lim, ar, br, cr, rfl, htr, _⟩ := hop hE
 have hll := htr.ll
 have htl := htr.tl
 have hfew := htr.few
 refine go ?_
 refine x_l fun bk12 w13 ebk12 sbk12 B14 u15 => ?_
 refine x_c func28 rfl rfl (within1_vV 0 5000 most _ _ _ B14) ?_
 rintro _ w18 ⟨rfl, u19⟩ zu19
 refine go ?_
 refine q_p (fun g23 => ?_) fun g23 => ?_
 ·
  refine go ?_
  refine f_ret3 (v1 := .slice none 0 0) (v2 := .int .i64 0) (v3 := .int .i64 3) results8 rfl rfl rfl ?_
  exact ⟨.inr (.inl ⟨hE, g23, rfl⟩), u_d⟩
 have hmost := Decidable.not_not.1 g23
 refine go ?_
 refine x_l5 (fun _ => False) [2, 9, 29] (fun (k : Nat) (ao2 : Option Addr) (g2 : Nat) (c2 : Nat) (od : List Int) => [(10, .slice ao2 od.length c2), (30, .int .i64 (k : Int))]) (fun k ao2 g2 c2 od w => (k ≤ vs.length) ∧ (od = ordL k) ∧ (Acc encI 1 3 w18.heap.size w ao2 g2 c2 od)) (fun k ao2 g2 c2 od => vs.length - k) 0 none 0 0 ([]) ⟨(Nat.zero_le _), rfl, (Acc.nil _ _ _ _ _ (by omega) (Nat.le_refl _))⟩ ?_
 rintro k ao2 g2 c2 od w27 ⟨hk, hod, hacc⟩ u28 zu28 K26 hK26
 have lt_g2 := hacc.lt
 have hodlen : od.length = k := by rw [hod, ordL_len]
 refine go ?_
 refine q_p (fun g31 => ?_) fun g31 => ?_
 ·
  refine go ?_
  refine x_l fun bk34 w35 ebk34 sbk34 B36 u37 => ?_
  have D39 := (hacc.keep u37 (fun _ h => h))
  refine t_append (z := .int .i64 0) (bytes := 8) (k := 1) (base := w18.heap.size) (k : Int) underlying38 (by kernel_rfl) rfl (by decide) (fun _ => rfl) (by intro x; simp [encI, Value.oneCell']) rfl rfl rfl rfl D39 B36 (by omega) (by omega) (by decide) (fun ao40 gb41 cp42 w43 A44 u45 gegb41 lngb41 => ?_)
  have zu45 := u45.size
  have lt_gb41 := A44.lt
  refine go ?_
  exact hK26 (k + 1) ao40 gb41 cp42 (od ++ [(k : Int)]) ⟨(by omega), (by rw [hod, ordL_succ]), A44⟩
 refine go ?_
 have hodl : od = ordL vs.length := by rw [hod, show k = vs.length from by omega]
 have hol : od.length = vs.length := by rw [hodl, ordL_len]
 have hcap := (hacc).cap_le
 have D48 := (((htr.keep u15 (fun _ _ h => h)).keep u19 (fun _ _ h => h)).keep u28 (fun _ _ h => h))
 refine t_call own29 rfl rfl rfl rfl (holds_c lim t vs ns rows av an ar bv ov bn on br cv cn cr od ao2 g2 0 c2 most _ D48 (hacc.sl (fun _ => rfl)) (by rw [hodl]; exact ordL_mem) (by rw [hodl]; exact ordL_nodup _) (by omega) hcap hmost) (fun v49 w50 r52 => ?_)
 rcases r52 with ⟨⟨bL, ls, rfl, hBL, hlsl, hseq, hlsr, hbL⟩ | ⟨q, ls, hh, rfl, hq, hlsl, hseq, hhr1, hmh⟩, u51⟩
 ·
  have zu51 := u51.size
  refine go ?_
  refine f_ret3 (v1 := .slice (some ⟨bL, 0, none⟩) vs.length vs.length) (v2 := .int .i64 0) (v3 := .int .i64 0) results8 rfl rfl rfl ?_
  exact ⟨.inr (.inr ⟨hE, hmost, rows, htr.eq, .inl ⟨bL, ls, rfl, hBL, hlsl, (by have h := hseq; rw [hol, hodl] at h; exact h), hlsr⟩⟩), u_d⟩
 have zu51 := u51.size
 refine go ?_
 refine f_ret3 (v1 := .slice none 0 0) (v2 := .int .i64 (q : Int)) (v3 := .int .i64 7) results8 rfl rfl rfl ?_
 exact ⟨.inr (.inr ⟨hE, hmost, rows, htr.eq, .inr ⟨q, ls, hh, rfl, (by omega), hlsl, (by have h := hseq; rw [hodl] at h; exact h), (by have h := hhr1; rw [hodl] at h; exact h), hmh⟩⟩), u_d⟩

end Go.Proofs.YtclinbbghnebaaaGreat
namespace Go.Proofs
open Go.Shelf
def YtclinbbghnebaaaGreat.sortM_ren : Go.Shelf.Ren := ⟨fun | 6 => 35 | 15 => 92 | 14 => 91 | 28 => 158 | 29 => 159 | 20 => 150 | 21 => 151 | 22 => 152 | 23 => 153 | 24 => 154 | 25 => 155 | 26 => 156 | 27 => 157 | 46 => 203 | 47 => 204 | 48 => 205 | 49 => 206 | 50 => 207 | 57 => 254 | n => n, fun | 22 => 44 | 24 => 122 | 25 => 125 | 3 => 3 | 39 => 213 | 0 => 0 | 53 => 308 | 55 => 310 | 4 => 4 | 46 => 302 | 45 => 301 | 50 => 149 | 5 => 5 | 9 => 9 | 66 => 358 | 70 => 362 | 76 => 400 | 77 => 232 | n => n, fun | n => n⟩
theorem YtclinbbghnebaaaGreat.sortM : Go.Proofs.SlLaysF0.n6 Tryz.prog YtclinbbghnebaaaGreat.sortM_ren := {
  mixed := by kernel_rfl
  f6 := ⟨Tryz.f35.name, by decide, Tryz.func35.trans (congrArg some (by kernel_rfl))⟩
  f14 := ⟨Tryz.f91.name, by decide, Tryz.func91.trans (congrArg some (by kernel_rfl))⟩
  f15 := Tryz.func92.trans (congrArg some (by kernel_rfl))
  f20 := ⟨Tryz.f150.name, by decide, Tryz.func150.trans (congrArg some (by kernel_rfl))⟩
  f21 := ⟨Tryz.f151.name, by decide, Tryz.func151.trans (congrArg some (by kernel_rfl))⟩
  f22 := ⟨Tryz.f152.name, by decide, Tryz.func152.trans (congrArg some (by kernel_rfl))⟩
  f23 := ⟨Tryz.f153.name, by decide, Tryz.func153.trans (congrArg some (by kernel_rfl))⟩
  f24 := ⟨Tryz.f154.name, by decide, Tryz.func154.trans (congrArg some (by kernel_rfl))⟩
  f25 := ⟨Tryz.f155.name, by decide, Tryz.func155.trans (congrArg some (by kernel_rfl))⟩
  f26 := ⟨Tryz.f156.name, by decide, Tryz.func156.trans (congrArg some (by kernel_rfl))⟩
  f27 := ⟨Tryz.f157.name, by decide, Tryz.func157.trans (congrArg some (by kernel_rfl))⟩
  f28 := Tryz.func158.trans (congrArg some (by kernel_rfl))
  f29 := Tryz.func159.trans (congrArg some (by kernel_rfl))
  f46 := ⟨Tryz.f203.name, by decide, Tryz.func203.trans (congrArg some (by kernel_rfl))⟩
  f47 := Tryz.func204.trans (congrArg some (by kernel_rfl))
  f48 := Tryz.func205.trans (congrArg some (by kernel_rfl))
  f49 := ⟨Tryz.f206.name, by decide, Tryz.func206.trans (congrArg some (by kernel_rfl))⟩
  f50 := ⟨Tryz.f207.name, by decide, Tryz.func207.trans (congrArg some (by kernel_rfl))⟩
  f57 := ⟨Tryz.f254.name, by decide, Tryz.func254.trans (congrArg some (by kernel_rfl))⟩
  t0 := Tryz.underlying0
  a0 := Tryz.isAgg0
  z0 := Tryz.sizeOf0
  v0 := Tryz.zeroValue0
  t3 := Tryz.underlying3
  a3 := Tryz.isAgg3
  z3 := Tryz.sizeOf3
  v3 := Tryz.zeroValue3
  t4 := Tryz.underlying4
  a4 := Tryz.isAgg4
  z4 := Tryz.sizeOf4
  v4 := Tryz.zeroValue4
  t5 := Tryz.underlying5
  a5 := Tryz.isAgg5
  z5 := Tryz.sizeOf5
  v5 := Tryz.zeroValue5
  t9 := Tryz.underlying9
  a9 := Tryz.isAgg9
  z9 := Tryz.sizeOf9
  v9 := Tryz.zeroValue9
  t22 := Tryz.underlying44
  a22 := Tryz.isAgg44
  z22 := Tryz.sizeOf44
  v22 := Tryz.zeroValue44
  t25 := Tryz.underlying125
  a25 := Tryz.isAgg125
  z25 := Tryz.sizeOf125
  v25 := Tryz.zeroValue125
  t39 := Tryz.underlying213
  a39 := Tryz.isAgg213
  z39 := Tryz.sizeOf213
  v39 := Tryz.zeroValue213
  t45 := Tryz.underlying301
  a45 := Tryz.isAgg301
  z45 := Tryz.sizeOf301
  v45 := Tryz.zeroValue301
  t46 := Tryz.underlying302
  a46 := Tryz.isAgg302
  z46 := Tryz.sizeOf302
  v46 := Tryz.zeroValue302
  t50 := Tryz.underlying149
  a50 := Tryz.isAgg149
  z50 := Tryz.sizeOf149
  v50 := Tryz.zeroValue149
  t53 := Tryz.underlying308
  a53 := Tryz.isAgg308
  z53 := Tryz.sizeOf308
  v53 := Tryz.zeroValue308
  t55 := Tryz.underlying310
  a55 := Tryz.isAgg310
  z55 := Tryz.sizeOf310
  v55 := Tryz.zeroValue310
  t66 := Tryz.underlying358
  a66 := Tryz.isAgg358
  z66 := Tryz.sizeOf358
  v66 := Tryz.zeroValue358
  t70 := Tryz.underlying362
  a70 := Tryz.isAgg362
  z70 := Tryz.sizeOf362
  v70 := Tryz.zeroValue362
  t76 := Tryz.underlying400
  a76 := Tryz.isAgg400
  z76 := Tryz.sizeOf400
  v76 := Tryz.zeroValue400
  t77 := Tryz.underlying232
  a77 := Tryz.isAgg232
  z77 := Tryz.sizeOf232
  v77 := Tryz.zeroValue232 }
end Go.Proofs
