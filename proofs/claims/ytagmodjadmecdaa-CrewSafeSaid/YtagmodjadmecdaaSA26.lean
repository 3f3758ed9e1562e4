/-
  Several lists in memory; Plan and Verify for valid members. Conditions: none.
-/
import Derived.Test.YtagmodjadmecdaaSA19
import Derived.Test.YtagmodjadmecdaaSA24
import Derived.Test.YtagmodjadmecdaaSA25
import Derived.Test.YtagmodjadmecdaaSSta
namespace Go.Proofs.Ytagmodjadmecdaa
open Go Go.RowKit

/-- Sailors lie in memory below a bound. -/
def SlrsM (B : Nat) (w : World) (hs : List HS) : Prop := ∀ h ∈ hs, SlrM w h ∧ (0 < h.ps.length → h.bp < B) ∧ (0 < h.ds.length → h.bd < B)
theorem SlrsM.keep {B : Nat} {w w' : World} {S : Nat → Prop} {hs : List HS} (m : SlrsM B w hs) (u : Upd S w w') (hS : ∀ i, i < B → ¬ S i) : SlrsM B w' hs := fun h hh => by
  obtain ⟨h1, h2, h3⟩ := m h hh
  exact ⟨⟨h1.hp.keep u (fun q => hS _ (h2 q)), h1.hpl, h1.hd.keep u (fun q => hS _ (h3 q)), h1.hdl⟩, h2, h3⟩
theorem SlrsM.of {base : Nat} {w : World} {hs : List HS} (h : ∀ h ∈ hs, SlrC base w h) : SlrsM w.heap.size w hs := fun x hx => by
  have m := (h x hx).slrM
  exact ⟨m, fun q => m.hp.lt q, fun q => m.hd.lt q⟩
/-- Lists of numbers lie in memory below a bound. -/
def LstsM (B : Nat) (w : World) (rows : List HL) : Prop := ∀ h ∈ rows, (Sl encI 1 w h.ao h.b h.o h.xs ∧ h.xs.length ≤ 1000000) ∧ (0 < h.xs.length → h.b < B)
theorem LstsM.keep {B : Nat} {w w' : World} {S : Nat → Prop} {rows : List HL} (m : LstsM B w rows) (u : Upd S w w') (hS : ∀ i, i < B → ¬ S i) : LstsM B w' rows := fun h hh => by
  obtain ⟨⟨h1, h3⟩, h2⟩ := m h hh
  exact ⟨⟨h1.keep u (fun q => hS _ (h2 q)), h3⟩, h2⟩
/-- Duties in memory. -/
structure HD where
  xs : List Dty
  ao : Option Addr
  g : Nat
  cap : Nat
instance : Inhabited HD := ⟨⟨default, default, default, default⟩⟩
def encHD (h : HD) : List Value := [.slice h.ao h.xs.length h.cap]
/-- Several lists of duties lie in memory, each in a block of its own. -/
structure DnM (base B : Nat) (w : World) (R : List HD) : Prop where
  mem : ∀ j, j < R.length → Acc encDty 4 40 base w (nth R j).ao (nth R j).g (nth R j).cap (nth R j).xs
  lt : ∀ j, j < R.length → (nth R j).g < B
  dis : ∀ i j, i < R.length → j < R.length → i ≠ j → base ≤ (nth R i).g → (nth R i).g ≠ (nth R j).g
theorem DnM.keep {base B : Nat} {w w' : World} {S : Nat → Prop} {R : List HD} (m : DnM base B w R) (u : Upd S w w') (hS : ∀ i, base ≤ i → i < B → ¬ S i) : DnM base B w' R :=
  ⟨fun j hj => (m.mem j hj).keep u (fun q => hS _ q (m.lt j hj)), m.lt, m.dis⟩
theorem DnM.keep' {base B : Nat} {w w' : World} {S : Nat → Prop} {R : List HD} (m : DnM base B w R) (u : Upd S w w') (hS : ∀ j, j < R.length → base ≤ (nth R j).g → ¬ S (nth R j).g) : DnM base B w' R :=
  ⟨fun j hj => (m.mem j hj).keep u (fun q => hS j hj q), m.lt, m.dis⟩
theorem DnM.wide {base B B' : Nat} {w : World} {R : List HD} (m : DnM base B w R) (h : B ≤ B') : DnM base B' w R := ⟨m.mem, fun j hj => Nat.lt_of_lt_of_le (m.lt j hj) h, m.dis⟩
theorem DnM.put {base B B' : Nat} {w w' : World} {S : Nat → Prop} {R : List HD} {n g : Nat} {ao : Option Addr} {cap : Nat} {xs : List Dty} (m : DnM base B w R) (hn : n < R.length) (u : Upd S w w') (hS : ∀ i, base ≤ i → i < B → S i → i = (nth R n).g) (ha : Acc encDty 4 40 base w' ao g cap xs) (hg : base ≤ g → g = (nth R n).g ∨ B ≤ g) (hb : B ≤ B') (hg' : g < B') : DnM base B' w' (R.set n ⟨xs, ao, g, cap⟩) := by
  refine ⟨fun j hj => ?_, fun j hj => ?_, fun i j hi hj hij hbi => ?_⟩
  · rw [List.length_set] at hj
    rw [nth_set' hn]
    by_cases e : j = n
    · rw [if_pos e]; exact ha
    · rw [if_neg e]
      exact (m.mem j hj).keep u (fun q hs => m.dis j n hj hn e q (hS _ q (m.lt j hj) hs))
  · rw [List.length_set] at hj
    rw [nth_set' hn]
    by_cases e : j = n
    · rw [if_pos e]; exact hg'
    · rw [if_neg e]; have := m.lt j hj; omega
  · rw [List.length_set] at hi hj
    rw [nth_set' hn] at hbi
    rw [nth_set' hn, nth_set' hn]
    by_cases ei : i = n
    · rw [if_pos ei] at hbi ⊢
      rw [if_neg (fun q => hij (ei.trans q.symm))]
      rcases hg hbi with q | q
      · show g ≠ _
        rw [q] at hbi ⊢
        exact m.dis n j hn hj (fun q => hij (ei.trans q)) hbi
      · have := m.lt j hj; show g ≠ _; omega
    · rw [if_neg ei] at hbi ⊢
      by_cases ej : j = n
      · rw [if_pos ej]
        show _ ≠ g
        by_cases hq : base ≤ g
        · rcases hg hq with q | q
          · rw [q]; exact m.dis i n hi hn ei hbi
          · have := m.lt i hi; omega
        · omega
      · rw [if_neg ej]; exact m.dis i j hi hj hij hbi
theorem DnM.start (base B : Nat) (w : World) (n : Nat) (h0 : 0 < base) (h1 : base ≤ w.heap.size) (hB : 0 < B) : DnM base B w (List.replicate n ⟨[], none, 0, 0⟩) := by
  have e : ∀ j, j < (List.replicate n (⟨[], none, 0, 0⟩ : HD)).length → nth (List.replicate n (⟨[], none, 0, 0⟩ : HD)) j = ⟨[], none, 0, 0⟩ := fun j hj => by rw [nth_eq hj]; simp
  refine ⟨fun j hj => ?_, fun j hj => ?_, fun i j hi hj _ hb => ?_⟩
  · rw [e j hj]; exact Acc.nil _ _ _ _ _ h0 h1
  · rw [e j hj]; exact hB
  · rw [e i hi] at hb; exact absurd hb (by show ¬ base ≤ 0; omega)
/-- Gathered slices of different types lie in different blocks. -/
theorem Acc.neU {α β : Type} {enc : α → List Value} {enc' : β → List Value} {k k' : Nat} {e e' : TypeId} {base base' : Nat} {w : World} {ao ao' : Option Addr} {g g' cap cap' : Nat} {xs : List α} {ys : List β} (h : Acc enc k e base w ao g cap xs) (h' : Acc enc' k' e' base' w ao' g' cap' ys) (ht : e ≠ e') (hb : base ≤ g) (hbb : base' ≤ base) : g ≠ g' := by
  by_cases q : base' ≤ g'
  · exact h.neAcc h' ht hb q
  · omega
theorem openE_of {r : Rul} {ss : List Slr} {xs : List Leg} (hr : okRul r = true) (h1 : ss.length ≤ 6) (h2 : ∀ s ∈ ss, okSlr s = true) (h3 : xs.length ≤ 8) (h4 : ∀ x ∈ xs, okLeg x = true) : openE r ss xs = 0 := by
  unfold openE chkR
  rw [if_pos hr, if_neg (by decide), if_neg (by omega), if_neg (fun h => by obtain ⟨s, hs, q⟩ := List.any_eq_true.1 h; rw [h2 s hs] at q; cases q), if_neg (by omega), if_neg (fun h => by obtain ⟨s, hs, q⟩ := List.any_eq_true.1 h; rw [h4 s hs] at q; cases q)]
theorem okSlr_ds {f u : Int} {ps : List Ppr} {ds ds' : List Dty} (h : okSlr ⟨f, u, ps, ds⟩ = true) (hl : ds'.length ≤ 20) (hd : ∀ d ∈ ds', okDty d = true) : okSlr ⟨f, u, ps, ds'⟩ = true := by
  unfold okSlr at h ⊢
  rw [decide_eq_true_eq] at h ⊢
  exact ⟨h.1, h.2.1, h.2.2.1, h.2.2.2.1, chkD_of hl hd⟩
theorem pltN_snoc (x : Leg) (ms : List Mb) (a : Nat) : ∀ l : List Nat, pltN x ms (l ++ [a]) = pltN x ms l + pltI (nth ms a) x
  | [] => by show pltI (nth ms a) x + 0 = 0 + _; omega
  | k :: l => by show pltI (nth ms k) x + pltN x ms (l ++ [a]) = (pltI (nth ms k) x + pltN x ms l) + _; rw [pltN_snoc x ms a l]; omega
theorem pltN_take {x : Leg} {ms : List Mb} {l : List Nat} {k : Nat} (h : k < l.length) : pltN x ms (l.take (k + 1)) = pltN x ms (l.take k) + pltI (nth ms (nth l k)) x := by rw [take_nth h, pltN_snoc]
theorem nodup_take {l : List Nat} {k : Nat} (h : l.Nodup) (hk : k < l.length) : nth l k ∉ l.take k := fun hm => by
  rw [← List.take_append_drop k l] at h
  have h1 := (List.nodup_append.1 h).2.2 _ hm (nth l k) (by rw [drop_nth hk]; exact List.mem_cons_self)
  exact h1 rfl
/-- A member who has some duties. -/
def MbOf (f u : Int) (ps : List Ppr) (ds : List Dty) : Mb := ⟨f, u, ps, srtS (ds.map lngS)⟩
theorem may_of {r : Rul} {f u : Int} {ps : List Ppr} {ds : List Dty} {x : Leg} {m : Mb} (hm : m = MbOf f u ps ds) (hc : canM r x m = true) : MayR r ⟨f, u, ps, ds⟩ x = true ∧ (f ≤ x.t.bl ∧ x.t.eh ≤ u) ∧ brokP r (srtS ((ds ++ [x.t]).map lngS)) = 0 := by
  subst hm
  unfold canM MbOf at hc
  refine ⟨hc, ?_⟩
  have hw := canB_win hc
  unfold canB at hc
  rw [hw, Bool.true_and, decide_eq_true_eq] at hc
  refine ⟨of_decide_eq_true hw, ?_⟩
  rw [lng_snoc]; exact hc
theorem aft_of {f u : Int} {ps : List Ppr} {ds : List Dty} {x : Leg} {m : Mb} (hm : m = MbOf f u ps ds) (hw : f ≤ x.t.bl ∧ x.t.eh ≤ u) : aftM x m = MbOf f u ps (ds ++ [x.t]) := by
  subst hm
  unfold aftM MbOf canT
  simp only []
  rw [if_pos (show winM f u x = true from decide_eq_true hw), lng_snoc]

theorem Plan_v (r : Rul) (hs : List HS) (al : Option Addr) (bl ol cl : Nat) (xs : List Leg) (ax : Option Addr) (bx ox cx : Nat) (ss : List Slr) (w0 : World) (hss : hs.map HS.slr = ss) (hl : Sl encHS 4 w0 al bl ol hs) (hsm : ∀ h ∈ hs, SlrM w0 h) (hxs : Sl encLeg 7 w0 ax bx ox xs) (hcx : xs.length ≤ cx) (h0 : openE r ss xs = 0) (hpos : 0 < w0.heap.size) :
    CallsV Try.prog 18 [.agg #[.int .i64 r.rest, .int .i64 r.span, .int .i64 r.work, .int .i64 r.week, .int .i64 r.ww], .slice al hs.length cl, .slice ax xs.length cx] w0 (fun v w' =>
      (∃ (ap : Option Addr) (cp up : Nat), v = .tuple #[.slice ap 0 cp, .int .i64 (up : Int), .int .i64 7] ∧ up = (asgP r xs (ss.map boardP) 0 0).2 ∧ (asgP r xs (ss.map boardP) 0 0).1 = none ∧ Ext w0 w') ∨
      (∃ ap gp cp rows p, v = .tuple #[.slice ap (List.length rows) cp, .int .i64 0, .int .i64 0] ∧ (Sl encHL 1 w' ap gp 0 rows ∧ LstsM w'.heap.size w' rows) ∧ planOk r xs (ss.map boardP) p ∧ rows.map HL.xs = p.map castL ∧ Ext w0 w')) := by
  subst hss
  obtain ⟨hr, h6, hos, h8, hox⟩ := openE_ok h0
  rw [List.length_map] at h6
  refine (Plan_c r hs al bl ol cl xs ax bx ox cx w0 hl (by omega) hsm hxs (by omega) hcx hpos).mono fun v w' ⟨⟨ap, gp, cp, rows, a, e, h1, h2, h3, _, h4⟩, u⟩ => ?_
  rcases h4 with ⟨h4, _⟩ | ⟨_, h5, rfl, rfl⟩ | ⟨_, h5, rfl, rfl, h7⟩
  · exact absurd h0 h4
  · obtain ⟨p, hp, e⟩ := asg_some h5
    refine .inr ⟨ap, gp, cp, rows.map (fun h : HR => (⟨h.xs, h.ao, h.g, 0, h.cap⟩ : HL)), p, by rw [List.length_map]; exact h1, ⟨⟨fun q => h2.addr (by rw [List.length_map] at q; exact q), fun q => h2.lt (by rw [List.length_map] at q; exact q), fun i hi => ?_⟩, fun h hh => ?_⟩, hp, by rw [List.map_map]; exact e, u⟩
    · rw [List.length_map] at hi
      rw [nth_map2 _ hi]; exact h2.at_ i hi
    · obtain ⟨q, hq, rfl⟩ := List.mem_map.1 hh
      have hS := h3 q hq
      refine ⟨⟨hS, ?_⟩, fun hp => hS.lt hp⟩
      have hm : q.xs ∈ rows.map HR.xs := List.mem_map.2 ⟨q, hq, rfl⟩
      rw [e] at hm
      obtain ⟨ns, hns, e2⟩ := List.mem_map.1 hm
      obtain ⟨i, hi, e3⟩ := List.getElem_of_mem hns
      have hi2 : i < xs.length := by rw [← planOk_len hp]; exact hi
      have ht := (stg_at hp hi2).1.len
      rw [nth_eq hi, e3] at ht
      have hh := (okLeg_ok (hox _ (nth_mem hi2))).2.1
      show q.xs.length ≤ _
      rw [← e2, List.length_map]; omega
  · rw [List.map_eq_nil_iff.1 h7] at h1
    exact .inl ⟨ap, cp, _, h1, rfl, h5, u⟩
theorem Verify_v (r : Rul) (hs : List HS) (al : Option Addr) (bl ol cl : Nat) (xs : List Leg) (ax : Option Addr) (bx ox cx : Nat) (rows : List HL) (ar : Option Addr) (br or_ cr : Nat) (ss : List Slr) (w0 : World) (hss : hs.map HS.slr = ss) (hl : Sl encHS 4 w0 al bl ol hs) (hsm : ∀ h ∈ hs, SlrM w0 h) (hxs : Sl encLeg 7 w0 ax bx ox xs) (hr9 : Sl encHL 1 w0 ar br or_ rows) (hrm : ∀ h ∈ rows, Sl encI 1 w0 h.ao h.b h.o h.xs ∧ h.xs.length ≤ 1000000) (h0 : openE r ss xs = 0) (hrl : rows.length = xs.length) (hin : ∀ l ∈ rows.map HL.xs, ∀ i ∈ l, 0 ≤ i ∧ i < (ss.length : Int)) (hpos : 0 < w0.heap.size) :
    CallsV Try.prog 22 [.agg #[.int .i64 r.rest, .int .i64 r.span, .int .i64 r.work, .int .i64 r.week, .int .i64 r.ww], .slice al hs.length cl, .slice ax xs.length cx, .slice ar rows.length cr] w0 (fun v w' => v = .tuple #[.int .i64 (verGo r xs (rows.map HL.xs) (ss.map boardP) 0), .int .i64 0] ∧ Ext w0 w') := by
  subst hss
  obtain ⟨hr, h6, hos, h8, hox⟩ := openE_ok h0
  rw [List.length_map] at h6
  refine (Verify_c r hs al bl ol cl xs ax bx ox cx rows ar br or_ cr w0 hl (by omega) hsm hxs (by omega) hr9 (by omega) hrm hpos).mono fun v w' ⟨⟨v9, e, h1, h2⟩, u⟩ => ?_
  rcases h2 with ⟨h2, _⟩ | ⟨_, h2, _⟩ | ⟨_, _, h2, _⟩ | ⟨_, _, _, rfl, rfl⟩
  · exact absurd h0 h2
  · exact absurd (by rw [List.length_map]; exact hrl) h2
  · obtain ⟨l, hl1, hl2⟩ := List.any_eq_true.1 h2
    unfold badRow at hl2
    rw [List.length_map, Bool.not_eq_true', decide_eq_false_iff_not] at hl2
    refine absurd (fun i hi => ?_) hl2
    have := hin l hl1 i hi
    rw [List.length_map] at this; omega
  · exact ⟨h1, u⟩

theorem May_ok {r : Rul} {f u : Int} {ps : List Ppr} (ap : Option Addr) (bp op cp : Nat) {ds : List Dty} (ad : Option Addr) (bd od cd : Nat) {x : Leg} (w0 : World) (hp : Sl encPpr 2 w0 ap bp op ps) (hpl : ps.length ≤ 1000000) (hd : Sl encDty 4 w0 ad bd od ds) (hdl : ds.length ≤ 1000000) (hr : okRul r = true) (hs : okSlr ⟨f, u, ps, ds⟩ = true) (hx : okLeg x = true) (hm : MayR r ⟨f, u, ps, ds⟩ x = true) (hpos : 0 < w0.heap.size) :
    CallsV Try.prog 21 [.agg #[.int .i64 r.rest, .int .i64 r.span, .int .i64 r.work, .int .i64 r.week, .int .i64 r.ww], .agg #[.int .i64 f, .int .i64 u, .slice ap ps.length cp, .slice ad ds.length cd], .agg #[.int .i64 x.r, .int .i64 x.t.bl, .int .i64 x.t.bh, .int .i64 x.t.el, .int .i64 x.t.eh, .int .i64 x.h, .int .i64 x.p]] w0 (fun v w' => v = .tuple #[.bool true, .bool (pltP ps x), .int .i64 0] ∧ Ext w0 w') :=
  (May_c r f u ps ap bp op cp ds ad bd od cd x w0 hp hpl hd hdl hpos).mono fun v w' ⟨⟨m, p, e, h1, h2⟩, u⟩ => by
    rcases h2 with ⟨h2, _⟩ | ⟨_, rfl, rfl, rfl⟩
    · exact absurd ⟨hr, hs, hx⟩ h2
    · rw [hm] at h1; exact ⟨h1, u⟩

end Go.Proofs.Ytagmodjadmecdaa
