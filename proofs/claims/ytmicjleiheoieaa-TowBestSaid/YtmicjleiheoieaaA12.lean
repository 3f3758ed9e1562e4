/-
  The calls whose results the document gives. Conditions: none.
-/
import Derived.Test.YtmicjleiheoieaaA11
import Derived.Test.YtmicjleiheoieaaEq
namespace Go.Proofs.Ytmicjleiheoieaa
open Go Go.RowKit
theorem Sl.ofBlk {α : Type} [Inhabited α] {enc : α → List Value} {k : Nat} (hk : ∀ x, (enc x).length = k) {w : World} {b : Nat} {t : TypeId} {xs : List α} (h : Blk w b t (xs.flatMap enc)) : Sl enc k w (some ⟨b, 0, none⟩) b 0 xs :=
  ⟨fun _ => rfl, fun _ => h.lt, fun i hi j v hv => by
    have h1 := flatMap_at hk xs i j v hi hv
    rw [Nat.zero_add]
    exact h.get h1⟩
def kA : Voy := ⟨⟨0, 10⟩, [⟨0, 100, ⟨50, 100⟩, ⟨0, 0⟩⟩], 200, 22⟩
def kB : Voy := ⟨⟨20, 20⟩, [⟨100, 0, ⟨100, 100⟩, ⟨0, 0⟩⟩], 100, 11⟩
def kN : Nar := ⟨40, 50, 30, true⟩
theorem kn_through (b : Nat) (w : World) (h : Blk w b 59 [.int .i64 0, .int .i64 100, .int .i64 50, .int .i64 100, .int .i64 0, .int .i64 0]) :
    CallsV Try.prog 40 [.agg #[.int .i64 0, .int .i64 10, .slice (some ⟨b, 0, none⟩) 1 1, .int .i64 200, .int .i64 22], .agg #[.int .i64 40, .int .i64 50, .int .i64 30, .bool true]] w
      (fun v w' => v = .tuple #[.agg #[.int .i64 24, .int .i64 58], .agg #[.int .i64 32, .int .i64 73], .bool true, .int .i64 0] ∧ Ext w w') :=
  (Through_c kA (some ⟨b, 0, none⟩) b 0 1 kN w (Sl.ofBlk (enc := encRun) (xs := kA.runs) (fun _ => rfl) h) (by decide)).mono fun v w' ⟨e, u⟩ => ⟨e.trans (by kernel_rfl), u⟩
theorem kn_stop (w : World) : CallsV Try.prog 46 [.int .i64 7700, .int .i64 2000, .agg #[.int .i64 100, .int .i64 125], .int .i64 90] w (fun v w' => v = .tuple #[.agg #[.int .i64 246, .int .i64 271], .int .i64 0] ∧ Ext w w') :=
  (Stop_c 7700 2000 100 125 90 w).mono fun v w' ⟨e, u⟩ => ⟨e.trans (by kernel_rfl), u⟩
def kH : List Hull := [⟨80, 11, 0⟩, ⟨90, 11, 0⟩, ⟨80, 11, 0⟩, ⟨80, 11, 0⟩]
theorem kn_stack (b : Nat) (w : World) (h : Blk w b 23 [.int .i64 80, .int .i64 11, .int .i64 0, .int .i64 90, .int .i64 11, .int .i64 0, .int .i64 80, .int .i64 11, .int .i64 0, .int .i64 80, .int .i64 11, .int .i64 0]) :
    CallsV Try.prog 18 [.agg #[.int .i64 30, .int .i64 10, .int .i64 200], .slice (some ⟨b, 0, none⟩) 4 4, .int .i64 23] w
      (fun v w' => (∃ ao g cap, v = .tuple #[.slice ao 2 cap, .int .i64 200, .int .i64 0] ∧ Sl encI 1 w' ao g 0 [2, 2]) ∧ Ext w w') :=
  (Stack_c ⟨30, 10, 200⟩ kH 23 (some ⟨b, 0, none⟩) b 0 4 w (Sl.ofBlk (enc := encHull) (xs := kH) (fun _ => rfl) h) (by decide) (by decide) (by have := h.lt; omega)).mono fun v w' ⟨ao, g, cap, e, hs, u⟩ => by
    have e1 : StkR ⟨30, 10, 200⟩ kH 23 = [2, 2] := by kernel_rfl
    have e2 : StkN ⟨30, 10, 200⟩ kH 23 = 200 := by kernel_rfl
    have e3 : StkE ⟨30, 10, 200⟩ kH 23 = 0 := by kernel_rfl
    rw [e1, e2, e3] at e
    rw [e1] at hs
    exact ⟨⟨ao, g, cap, e, hs⟩, u⟩
def kV (b1 b2 : Nat) : List HVoy := [⟨kA, some ⟨b1, 0, none⟩, b1, 0, 1⟩, ⟨kB, some ⟨b2, 0, none⟩, b2, 0, 1⟩]
theorem kn_rows {b1 b2 : Nat} {rows : List HSt} (h : rows.map (·.ss) = (kV b1 b2).map (fun h => [kN].map (thrS h.v))) : (nth rows 0).ss = [thrS kA kN] ∧ (nth rows 1).ss = [thrS kB kN] := by
  match rows, h with
  | [r0, r1], h => simpa [kV, nth] using h
  | [], h => simp [kV] at h
  | [_], h => simp [kV] at h
  | _ :: _ :: _ :: _, h => simp [kV] at h
theorem kn_cl {b1 b2 : Nat} {rows : List HSt} {ls : List Int} (h : rows.map (·.ss) = (kV b1 b2).map (fun h => [kN].map (thrS h.v))) (h0 : nth ls 0 = 0) : clL (kV b1 b2) [kN] rows ls 1 [0] = [⟨-33, 23⟩] := by
  obtain ⟨h1, h2⟩ := kn_rows h
  have e1 : thrS kA kN = ⟨⟨24, 58⟩, ⟨32, 73⟩, true⟩ := by kernel_rfl
  have e2 : thrS kB kN = ⟨⟨50, 50⟩, ⟨57, 57⟩, true⟩ := by kernel_rfl
  have n1 : nth (nth rows 0).ss 0 = ⟨⟨24, 58⟩, ⟨32, 73⟩, true⟩ := by rw [h1, e1]; rfl
  have n2 : nth (nth rows 1).ss 0 = ⟨⟨50, 50⟩, ⟨57, 57⟩, true⟩ := by rw [h2, e2]; rfl
  have hb : barB (kV b1 b2) [kN] rows 1 0 0 = true := by unfold barB; rw [n1, n2]; rfl
  show (((List.range 1).filter (barB (kV b1 b2) [kN] rows 1 0)).map (clB rows ls 1 0)) ++ [] = _
  rw [show List.range 1 = [0] from rfl, List.filter_cons, if_pos hb, List.filter_nil, List.append_nil, List.map_cons, List.map_nil]
  unfold clB
  rw [n1, n2, h0]
  rfl
theorem holdR_nil : HoldR [] 0 := ⟨Int.le_refl _, fun _ h => (by cases h), fun h' h1 h2 => (by omega)⟩
theorem holdR_kn : HoldR [⟨-33, 23⟩] 24 := ⟨by decide, fun b hb => by simp at hb; subst hb; decide, fun h' h1 h2 => ⟨⟨-33, 23⟩, by simp, by simp only []; omega⟩⟩
theorem kn_holds (b1 b2 b3 b4 : Nat) (w : World) (h1 : Blk w b1 59 [.int .i64 0, .int .i64 100, .int .i64 50, .int .i64 100, .int .i64 0, .int .i64 0]) (h2 : Blk w b2 59 [.int .i64 100, .int .i64 0, .int .i64 100, .int .i64 100, .int .i64 0, .int .i64 0])
    (h3 : Blk w b3 48 [.int .i64 0, .int .i64 10, .slice (some ⟨b1, 0, none⟩) 1 1, .int .i64 200, .int .i64 22, .int .i64 20, .int .i64 20, .slice (some ⟨b2, 0, none⟩) 1 1, .int .i64 100, .int .i64 11]) (h4 : Blk w b4 72 [.int .i64 40, .int .i64 50, .int .i64 30, .bool true]) :
    CallsV Try.prog 23 [.slice (some ⟨b3, 0, none⟩) 2 2, .slice (some ⟨b4, 0, none⟩) 1 1, .int .i64 60] w (fun v w' => (∃ b, v = .tuple #[.slice (some ⟨b, 0, none⟩) 2 2, .int .i64 0, .int .i64 0] ∧ Blk w' b 3 [.int .i64 0, .int .i64 24]) ∧ Ext w w') := by
  refine (Holds_c (kV b1 b2) [kN] (some ⟨b3, 0, none⟩) (some ⟨b4, 0, none⟩) b3 0 b4 0 2 1 60 w (Sl.ofBlk (enc := encHVoy) (xs := kV b1 b2) (fun _ => rfl) h3) ?_ ?_ (Sl.ofBlk (enc := encNar) (xs := [kN]) (fun _ => rfl) h4) (by simp [kV]) (by decide)).mono ?_
  · intro x hx
    simp [kV] at hx
    rcases hx with rfl | rfl
    · exact Sl.ofBlk (enc := encRun) (xs := kA.runs) (fun _ => rfl) h1
    · exact Sl.ofBlk (enc := encRun) (xs := kB.runs) (fun _ => rfl) h2
  · intro x hx
    simp [kV] at hx
    rcases hx with rfl | rfl
    · show 1 ≤ 1000000; omega
    · show 1 ≤ 1000000; omega
  · rintro v w' ⟨h, u⟩
    refine ⟨?_, u⟩
    have hE : OpenE ((kV b1 b2).map HVoy.v) [kN] = 0 := by kernel_rfl
    have ho : ordL 2 = [0, 1] := rfl
    rcases h with ⟨hne, _⟩ | ⟨_, hm, _⟩ | ⟨_, _, rows, hr, h⟩
    · exact absurd hE hne
    · exact absurd (by decide) hm
    · rcases h with ⟨b, ls, rfl, hB, hl, hseq, _⟩ | ⟨q, ls, hh, _, hq, hl, hseq, hq1, hq2⟩
      · have hl2 : ls.length = 2 := hl
        have s0 := (hseq 0 (show 0 < 2 by decide)).1
        have s1 := (hseq 1 (show 1 < 2 by decide)).1
        change HoldR (clL (kV b1 b2) [kN] rows ls 0 []) (nth ls 0) at s0
        change HoldR (clL (kV b1 b2) [kN] rows ls 1 [0]) (nth ls 1) at s1
        have t0 : nth ls 0 = 0 := HoldR.unique s0 holdR_nil
        rw [kn_cl hr t0] at s1
        have t1 : nth ls 1 = 24 := HoldR.unique s1 holdR_kn
        match ls, hl2, t0, t1 with
        | [x, y], _, t0, t1 =>
          obtain rfl : x = 0 := t0
          obtain rfl : y = 24 := t1
          exact ⟨b, rfl, hB⟩
      · have hq' : q < 2 := hq
        match q, hq' with
        | 0, _ =>
          change HoldR (clL (kV b1 b2) [kN] rows ls 0 []) hh at hq1
          have := HoldR.unique hq1 holdR_nil
          omega
        | 1, _ =>
          have s0 := (hseq 0 (by decide)).1
          change HoldR (clL (kV b1 b2) [kN] rows ls 0 []) (nth ls 0) at s0
          have t0 : nth ls 0 = 0 := HoldR.unique s0 holdR_nil
          change HoldR (clL (kV b1 b2) [kN] rows ls 1 [0]) hh at hq1
          rw [kn_cl hr t0] at hq1
          have := HoldR.unique hq1 holdR_kn
          omega
end Go.Proofs.Ytmicjleiheoieaa
