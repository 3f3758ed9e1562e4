/-
  Several lists in memory; Plan and Verify for valid members. Conditions: none.
-/
import Derived.Test.YtagmodjadmecdaaPA19
import Derived.Test.YtagmodjadmecdaaPA24
import Derived.Test.YtagmodjadmecdaaPA25
import Derived.Test.YtagmodjadmecdaaPSta
namespace Go.Proofs.Ytagmodjadmecdaa
open Go Go.RowKit

/-- Sailors lie in memory below a bound. -/
def SlrsM (B : Nat) (w : World) (hs : List HS) : Prop := ∀ h ∈ hs, SlrM w h ∧ (0 < h.ps.length → h.bp < B) ∧ (0 < h.ds.length → h.bd < B)
theorem SlrsM.keep {B : Nat} {w w' : World} {S : Nat → Prop} {hs : List HS} (m : SlrsM B w hs) (u : Upd S w w') (hS : ∀ i, i < B → ¬ S i) : SlrsM B w' hs := fun h hh => by
  obtain ⟨h1, h2, h3⟩ := m h hh
  exact ⟨⟨h1.hp.keep u (fun q => hS _ (h2 q)), h1.hpl, h1.hd.keep u (fun q => hS _ (h3 q)), h1.hdl⟩, h2, h3⟩
theorem SlrsM.of {base : Nat} {w : World} {hs : List HS} (h : ∀ h ∈ hs, SlrC base w h) : SlrsM w.heap.size w hs := fun x hx => by
  have m := (h x hx).slrM
  exact ⟨m, fun q => m.hp.lt q, fun q => m.hd.lt q⟩
/-- Lists of numbers lie in memory below a bound. -/
def LstsM (B : Nat) (w : World) (rows : List HL) : Prop := ∀ h ∈ rows, (Sl encI 1 w h.ao h.b h.o h.xs ∧ h.xs.length ≤ 1000000) ∧ (0 < h.xs.length → h.b < B)
theorem LstsM.keep {B : Nat} {w w' : World} {S : Nat → Prop} {rows : List HL} (m : LstsM B w rows) (u : Upd S w w') (hS : ∀ i, i < B → ¬ S i) : LstsM B w' rows := fun h hh => by
  obtain ⟨⟨h1, h3⟩, h2⟩ := m h hh
  exact ⟨⟨h1.keep u (fun q => hS _ (h2 q)), h3⟩, h2⟩
/-- Duties in memory. -/
structure HD where
  xs : List Dty
  ao : Option Addr
  g : Nat
  cap : Nat
instance : Inhabited HD := ⟨⟨default, default, default, default⟩⟩
/-- Several lists of duties lie in memory, each in a block of its own. -/
structure DnM (base B : Nat) (w : World) (R : List HD) : Prop where
  mem : ∀ j, j < R.length → Acc encDty 4 40 base w (nth R j).ao (nth R j).g (nth R j).cap (nth R j).xs
  lt : ∀ j, j < R.length → (nth R j).g < B
  dis : ∀ i j, i < R.length → j < R.length → i ≠ j → base ≤ (nth R i).g → (nth R i).g ≠ (nth R j).g
theorem DnM.keep {base B : Nat} {w w' : World} {S : Nat → Prop} {R : List HD} (m : DnM base B w R) (u : Upd S w w') (hS : ∀ i, base ≤ i → i < B → ¬ S i) : DnM base B w' R :=
  ⟨fun j hj => (m.mem j hj).keep u (fun q => hS _ q (m.lt j hj)), m.lt, m.dis⟩
theorem DnM.wide {base B B' : Nat} {w : World} {R : List HD} (m : DnM base B w R) (h : B ≤ B') : DnM base B' w R := ⟨m.mem, fun j hj => Nat.lt_of_lt_of_le (m.lt j hj) h, m.dis⟩
theorem DnM.put {base B B' : Nat} {w w' : World} {S : Nat → Prop} {R : List HD} {n g : Nat} {ao : Option Addr} {cap : Nat} {xs : List Dty} (m : DnM base B w R) (hn : n < R.length) (u : Upd S w w') (hS : ∀ i, base ≤ i → i < B → S i → i = (nth R n).g) (ha : Acc encDty 4 40 base w' ao g cap xs) (hg : base ≤ g → g = (nth R n).g ∨ B ≤ g) (hb : B ≤ B') (hg' : g < B') : DnM base B' w' (R.set n ⟨xs, ao, g, cap⟩) := by
  refine ⟨fun j hj => ?_, fun j hj => ?_, fun i j hi hj hij hbi => ?_⟩
  · rw [List.length_set] at hj
    rw [nth_set' hn]
    by_cases e : j = n
    · rw [if_pos e]; exact ha
    · rw [if_neg e]
      exact (m.mem j hj).keep u (fun q hs => m.dis j n hj hn e q (hS _ q (m.lt j hj) hs))
  · rw [List.length_set] at hj
    rw [nth_set' hn]
    by_cases e : j = n
    · rw [if_pos e]; exact hg'
    · rw [if_neg e]; have := m.lt j hj; omega
  · rw [List.length_set] at hi hj
    rw [nth_set' hn] at hbi
    rw [nth_set' hn, nth_set' hn]
    by_cases ei : i = n
    · rw [if_pos ei] at hbi ⊢
      rw [if_neg (fun q => hij (ei.trans q.symm))]
      rcases hg hbi with q | q
      · show g ≠ _
        rw [q] at hbi ⊢
        exact m.dis n j hn hj (fun q => hij (ei.trans q)) hbi
      · have := m.lt j hj; show g ≠ _; omega
    · rw [if_neg ei] at hbi ⊢
      by_cases ej : j = n
      · rw [if_pos ej]
        show _ ≠ g
        by_cases hq : base ≤ g
        · rcases hg hq with q | q
          · rw [q]; exact m.dis i n hi hn ei hbi
          · have := m.lt i hi; omega
        · omega
      · rw [if_neg ej]; exact m.dis i j hi hj hij hbi
theorem DnM.start (base B : Nat) (w : World) (n : Nat) (h0 : 0 < base) (h1 : base ≤ w.heap.size) (hB : 0 < B) : DnM base B w (List.replicate n ⟨[], none, 0, 0⟩) := by
  have e : ∀ j, j < (List.replicate n (⟨[], none, 0, 0⟩ : HD)).length → nth (List.replicate n (⟨[], none, 0, 0⟩ : HD)) j = ⟨[], none, 0, 0⟩ := fun j hj => by rw [nth_eq hj]; simp
  refine ⟨fun j hj => ?_, fun j hj => ?_, fun i j hi hj _ hb => ?_⟩
  · rw [e j hj]; exact Acc.nil _ _ _ _ _ h0 h1
  · rw [e j hj]; exact hB
  · rw [e i hi] at hb; exact absurd hb (by show ¬ base ≤ 0; omega)
theorem openE_of {r : Rul} {ss : List Slr} {xs : List Leg} (hr : okRul r = true) (h1 : ss.length ≤ 6) (h2 : ∀ s ∈ ss, okSlr s = true) (h3 : xs.length ≤ 8) (h4 : ∀ x ∈ xs, okLeg x = true) : openE r ss xs = 0 := by
  unfold openE chkR
  rw [if_pos hr, if_neg (by decide), if_neg (by omega), if_neg (fun h => by obtain ⟨s, hs, q⟩ := List.any_eq_true.1 h; rw [h2 s hs] at q; cases q), if_neg (by omega), if_neg (fun h => by obtain ⟨s, hs, q⟩ := List.any_eq_true.1 h; rw [h4 s hs] at q; cases q)]
theorem Plan_v (r : Rul) (hs : List HS) (al : Option Addr) (bl ol cl : Nat) (xs : List Leg) (ax : Option Addr) (bx ox cx : Nat) (ss : List Slr) (w0 : World) (hss : hs.map HS.slr = ss) (hl : Sl encHS 4 w0 al bl ol hs) (hsm : ∀ h ∈ hs, SlrM w0 h) (hxs : Sl encLeg 7 w0 ax bx ox xs) (hcx : xs.length ≤ cx) (h0 : openE r ss xs = 0) (hpos : 0 < w0.heap.size) :
    CallsV Try.prog 18 [.agg #[.int .i64 r.rest, .int .i64 r.span, .int .i64 r.work, .int .i64 r.week, .int .i64 r.ww], .slice al hs.length cl, .slice ax xs.length cx] w0 (fun v w' =>
      (∃ (ap : Option Addr) (cp up : Nat), v = .tuple #[.slice ap 0 cp, .int .i64 (up : Int), .int .i64 7] ∧ up = (asgP r xs (ss.map boardP) 0 0).2 ∧ (asgP r xs (ss.map boardP) 0 0).1 = none ∧ Ext w0 w') ∨
      (∃ ap gp cp rows p, v = .tuple #[.slice ap (List.length rows) cp, .int .i64 0, .int .i64 0] ∧ (Sl encHL 1 w' ap gp 0 rows ∧ LstsM w'.heap.size w' rows) ∧ planOk r xs (ss.map boardP) p ∧ rows.map HL.xs = p.map castL ∧ Ext w0 w')) := by
  subst hss
  obtain ⟨hr, h6, hos, h8, hox⟩ := openE_ok h0
  rw [List.length_map] at h6
  refine (Plan_c r hs al bl ol cl xs ax bx ox cx w0 hl (by omega) hsm hxs (by omega) hcx hpos).mono fun v w' ⟨⟨ap, gp, cp, rows, a, e, h1, h2, h3, _, h4⟩, u⟩ => ?_
  rcases h4 with ⟨h4, _⟩ | ⟨_, h5, rfl, rfl⟩ | ⟨_, h5, rfl, rfl, h7⟩
  · exact absurd h0 h4
  · obtain ⟨p, hp, e⟩ := asg_some h5
    refine .inr ⟨ap, gp, cp, rows.map (fun h : HR => (⟨h.xs, h.ao, h.g, 0, h.cap⟩ : HL)), p, by rw [List.length_map]; exact h1, ⟨⟨fun q => h2.addr (by rw [List.length_map] at q; exact q), fun q => h2.lt (by rw [List.length_map] at q; exact q), fun i hi => ?_⟩, fun h hh => ?_⟩, hp, by rw [List.map_map]; exact e, u⟩
    · rw [List.length_map] at hi
      rw [nth_map2 _ hi]; exact h2.at_ i hi
    · obtain ⟨q, hq, rfl⟩ := List.mem_map.1 hh
      have hS := h3 q hq
      refine ⟨⟨hS, ?_⟩, fun hp => hS.lt hp⟩
      have hm : q.xs ∈ rows.map HR.xs := List.mem_map.2 ⟨q, hq, rfl⟩
      rw [e] at hm
      obtain ⟨ns, hns, e2⟩ := List.mem_map.1 hm
      obtain ⟨i, hi, e3⟩ := List.getElem_of_mem hns
      have hi2 : i < xs.length := by rw [← planOk_len hp]; exact hi
      have ht := (stg_at hp hi2).1.len
      rw [nth_eq hi, e3] at ht
      have hh := (okLeg_ok (hox _ (nth_mem hi2))).2.1
      show q.xs.length ≤ _
      rw [← e2, List.length_map]; omega
  · rw [List.map_eq_nil_iff.1 h7] at h1
    exact .inl ⟨ap, cp, _, h1, rfl, h5, u⟩
end Go.Proofs.Ytagmodjadmecdaa
