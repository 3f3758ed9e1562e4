/-
  Part 12 of the proof: contracts and plain laws. Conditions: none.
-/
import Derived.Test.YtagmodjadmecdaaGreatJK11
namespace Go.Proofs.YtagmodjadmecdaaGreat
open Go Go.RowKit Tryz

theorem Sl.ofBlk {α : Type} [Inhabited α] {enc : α → List Value} {k : Nat} (hk : ∀ x, (enc x).length = k) {w : World} {b : Nat} {t : TypeId} {xs : List α} (h : Blk w b t (xs.flatMap enc)) : Sl enc k w (some ⟨b, 0, none⟩) b 0 xs :=
  ⟨fun _ => rfl, fun _ => h.lt, fun i hi j v hv => by
    have h1 := flatMap_at hk xs i j v hi hv
    rw [Nat.zero_add]
    exact h.get h1⟩
/-! ### The document's examples -/
def knR : Rul := ⟨600, 840, 600, 2880, 1000⟩
def knD (b e : Int) : Dty := ⟨b, b, e, e⟩
def knL : List Dty := [knD 0 300, knD 400 700]
def knM : List Dty := [knD 0 300, knD 899 1200]
def knS : List Slr := [⟨0, 20160, [], []⟩, ⟨0, 20160, [], []⟩]
def knX (h : Int) : List Leg := [⟨0, knD 0 300, h, 0⟩, ⟨0, knD 300 600, h, 0⟩, ⟨0, knD 600 900, h, 0⟩]
theorem kn_chk : chkRD knR knL = 0 ∧ chkRD knR knM = 0 := ⟨by kernel_rfl, by kernel_rfl⟩
theorem kn_shifts : shiftsP knR (srtS (knL.map lngS)) = [⟨0, 700, 600⟩] := by kernel_rfl
theorem kn_b1 : brkK knR knM 1 = 0 := by kernel_rfl
theorem kn_b2 : brkK knR knM 2 = 2 := by kernel_rfl
theorem kn_b3 : brokP knR (srtS (knM.map shtS)) = 2 := by kernel_rfl
theorem kn_rested {at_ rule e : Int} {pos : Bool} (h : RestA knR knM at_ rule pos e) : at_ = 1 ∧ rule = 2 ∧ pos = false ∧ e = 0 := by
  rcases h with ⟨h, _⟩ | ⟨_, h1, h2, h3⟩
  · exact absurd kn_chk.2 h
  · rw [kn_b3] at h3
    rcases h2 with ⟨_, _, h4⟩ | ⟨k, hk, h4, h5, h6, h7⟩
    · have := h4 1 (by decide); rw [kn_b2] at this; cases this
    · match k, hk with
      | 0, _ => rw [kn_b1] at h5; exact absurd h5 h6
      | 1, _ => rw [kn_b2] at h5; exact ⟨h4, h5, h3, h1⟩
theorem kn_next0 : ((List.range 600).all fun i => brokP knR (insS ⟨700 + (i : Int), 760 + (i : Int)⟩ (srtS (knL.map lngS))) != 0) = true := by kernel_rfl
theorem kn_next1 : brokP knR (insS ⟨1300, 1360⟩ (srtS (knL.map lngS))) = 0 := by kernel_rfl
theorem kn_next2 : brokP knR (srtS (knL.map lngS)) = 0 ∧ mxF (srtS (knL.map lngS)) 700 (srtS (knL.map lngS)).length = 700 := ⟨by kernel_rfl, by kernel_rfl⟩
theorem kn_next {t e : Int} (h : NextA knR knL 700 60 t e) : t = 1300 ∧ e = 0 := by
  rcases h with ⟨h, _⟩ | ⟨_, h, _⟩ | ⟨_, _, h | ⟨_, h⟩⟩
  · exact absurd kn_chk.1 h
  · exact absurd (by decide) h
  · exact absurd kn_next2.1 h.1
  · rw [kn_next2.2] at h
    rcases h with ⟨h1, h2, h3, h4, h5⟩ | ⟨_, _, h5⟩
    · refine ⟨?_, h1⟩
      rcases Int.lt_trichotomy t 1300 with q | q | q
      · have h6 := List.all_eq_true.1 kn_next0 (t - 700).toNat (List.mem_range.2 (by omega))
        rw [show (((t - 700).toNat : Nat) : Int) = t - 700 by omega, show (700 : Int) + (t - 700) = t by omega, show (760 : Int) + (t - 700) = t + 60 by omega, h4] at h6
        cases h6
      · exact q
      · exact absurd kn_next1 (h5 1300 (by omega) q)
    · exact absurd kn_next1 (h5 1300 (by omega) (by omega))
theorem kn_open (h : Int) (hh : h = 1 ∨ h = 2) : openE knR knS (knX h) = 0 := by rcases hh with rfl | rfl <;> kernel_rfl
theorem kn_plan1 : asgP knR (knX 1) (knS.map boardP) 0 0 = (some [[0], [0], [1]], 3) := by kernel_rfl
theorem kn_plan2 : asgP knR (knX 2) (knS.map boardP) 0 0 = (none, 2) := by kernel_rfl
theorem kn_plan {plan : List (List Int)} {at_ e : Int} (h : PlanR knR knS (knX 1) plan at_ e) : plan = [[0], [0], [1]] ∧ e = 0 := by
  rcases h with ⟨h, _⟩ | ⟨_, h, _, h2⟩ | ⟨_, h, _⟩
  · exact absurd (kn_open 1 (.inl rfl)) h
  · rw [kn_plan1] at h; injection h with h; exact ⟨h.symm, h2⟩
  · rw [kn_plan1] at h; cases h
theorem kn_planN {plan : List (List Int)} {at_ e : Int} (h : PlanR knR knS (knX 2) plan at_ e) : at_ = 2 ∧ e = 7 ∧ plan = [] := by
  rcases h with ⟨h, _⟩ | ⟨_, h, _, h2⟩ | ⟨_, h, h2, h3, h4⟩
  · exact absurd (kn_open 2 (.inr rfl)) h
  · rw [kn_plan2] at h; cases h
  · rw [kn_plan2] at h2; exact ⟨h2, h3, h4⟩
theorem kn_ver0 : verGo knR (knX 1) [[0], [0], [0]] (knS.map boardP) 0 = 2 := by kernel_rfl
theorem kn_ver1 : ([[0], [0], [0]] : List (List Int)).any (badRow knS.length) = false := by kernel_rfl
theorem kn_ver {v e : Int} (h : VerR knR knS (knX 1) [[0], [0], [0]] v e) : v = 2 ∧ e = 0 := by
  rcases h with ⟨h, _⟩ | ⟨_, h, _⟩ | ⟨_, _, h, _⟩ | ⟨_, _, _, h, h2⟩
  · exact absurd (kn_open 1 (.inl rfl)) h
  · exact absurd rfl h
  · rw [kn_ver1] at h; cases h
  · rw [kn_ver0] at h2; exact ⟨h2, h⟩
theorem kn_ch : chP 3 0 0 = [[]] ∧ chP 3 1 0 = [[0], [1], [2]] ∧ chP 3 2 0 = [[0, 1], [0, 2], [1, 2]] := ⟨by kernel_rfl, by kernel_rfl, by kernel_rfl⟩
theorem kn_sf0 : ((chP 3 0 0 ++ chP 3 1 0).all fun l => sfP knR (pickL (knX 2) l) (knS.map boardP)) = true := by kernel_rfl
theorem kn_sf1 : sfP knR (pickL (knX 2) [0, 1]) (knS.map boardP) = true := by kernel_rfl
theorem kn_sf2 : sfP knR (pickL (knX 2) [0, 2]) (knS.map boardP) = false := by kernel_rfl
theorem kn_short {l : List Int} {e : Int} (h : ShortR knR knS (knX 2) l e) : l = [0, 2] ∧ e = 0 := by
  have hbad : ∀ m, 2 < m → ¬ fewOk knR (knX 2) (knS.map boardP) m := fun m hm hf => by
    have h1 := hf 2 hm [0, 2] (by show [0, 2] ∈ chP 3 2 0; rw [kn_ch.2.2]; simp)
    rw [kn_sf2] at h1; cases h1
  rcases h with ⟨h, _⟩ | ⟨_, h, _⟩ | ⟨_, _, h, many, pre, post, hm, hf, he, hp, hn⟩ | ⟨_, _, h, _⟩
  · exact absurd (kn_open 2 (.inr rfl)) h
  · unfold sfP at h; rw [kn_plan2] at h; cases h
  · refine ⟨?_, h⟩
    have hm2 : many ≤ 2 := Nat.le_of_not_lt fun q => hbad many q hf
    replace he : chP 3 many 0 = pre ++ l :: post := he
    have hl : l ∈ chP 3 many 0 := by rw [he]; simp
    rcases Nat.lt_or_ge many 2 with q | q
    · have h2 : l ∈ chP 3 0 0 ++ chP 3 1 0 := by
        match many, q with
        | 0, _ => exact List.mem_append_left _ hl
        | 1, _ => exact List.mem_append_right _ hl
      have h3 := List.all_eq_true.1 kn_sf0 l h2
      rw [hn] at h3; cases h3
    · rw [show many = 2 by omega, kn_ch.2.2] at he
      match pre, he, hp with
      | [], he, _ => injection he with h1 _; rw [← h1, kn_sf1] at hn; cases hn
      | [_], he, _ => injection he with _ h2; injection h2 with h2 _; exact h2.symm
      | _ :: p :: r, he, hp =>
        injection he with _ h2
        injection h2 with h2 _
        have h3 := hp p (by simp)
        rw [← h2, kn_sf2] at h3; cases h3
  · exact absurd h (hbad _ (by decide))


theorem kn_rows {rows : List HR} (h : rows.map HR.xs = [[0], [0], [1]]) : ∃ h0 h1 ao g c, rows = [h0, h1, ⟨[1], ao, g, c⟩] := by
  rcases rows with _ | ⟨h0, _ | ⟨h1, _ | ⟨⟨xs, ao, g, c⟩, _ | ⟨h3, r⟩⟩⟩⟩ <;> simp at h
  obtain ⟨_, _, rfl⟩ := h
  exact ⟨h0, h1, ao, g, c, rfl⟩
def knHS : List HS := [⟨0, 20160, [], none, 0, 0, 0, [], none, 0, 0, 0⟩, ⟨0, 20160, [], none, 0, 0, 0, [], none, 0, 0, 0⟩]
theorem kn_hs (w : World) : ∀ h ∈ knHS, SlrM w h := fun h hh => by
  have e : h = ⟨0, 20160, [], none, 0, 0, 0, [], none, 0, 0, 0⟩ := by simpa [knHS] using hh
  subst e
  exact ⟨Sl.nil _ _ _ _ _ _, Nat.zero_le _, Sl.nil _ _ _ _ _ _, Nat.zero_le _⟩
abbrev knRV : Value := .agg #[.int .i64 600, .int .i64 840, .int .i64 600, .int .i64 2880, .int .i64 1000]
theorem kn_c1 (b : Nat) (w0 : World) (h : Blk w0 b 37 (knL.flatMap encDty)) : CallsV Tryz.prog 11 [knRV, .slice (some ⟨b, 0, none⟩) 2 2] w0 (fun v w' => (∃ ao g cp, v = .tuple #[.slice ao 1 cp, .int .i64 0] ∧ Sl encShf 3 w' ao g 0 [⟨0, 700, 600⟩]) ∧ Ext w0 w') :=
  (Shifts_c knR knL (some ⟨b, 0, none⟩) b 0 2 w0 (Sl.ofBlk (enc := encDty) (fun _ => rfl) h) (by decide) (Nat.lt_of_le_of_lt (Nat.zero_le _) h.lt)).mono fun v w' ⟨⟨ao, g, cp, sh, e, h1, h2, h3⟩, u⟩ => by
    rcases h3 with ⟨h4, _⟩ | ⟨_, h5, h6⟩
    · exact absurd kn_chk.1 h4
    · rw [kn_shifts] at h6; subst h5 h6; exact ⟨⟨ao, g, cp, h1, h2⟩, u⟩
theorem kn_c2 (b : Nat) (w0 : World) (h : Blk w0 b 37 (knM.flatMap encDty)) : CallsV Tryz.prog 12 [knRV, .slice (some ⟨b, 0, none⟩) 2 2] w0 (fun v w' => v = .tuple #[.int .i64 1, .int .i64 2, .bool false, .int .i64 0] ∧ Ext w0 w') :=
  (Rested_c knR knM (some ⟨b, 0, none⟩) b 0 2 w0 (Sl.ofBlk (enc := encDty) (fun _ => rfl) h) (by decide) (Nat.lt_of_le_of_lt (Nat.zero_le _) h.lt)).mono fun v w' ⟨⟨a, r, p, e, h1, h2⟩, u⟩ => by
    obtain ⟨rfl, rfl, rfl, rfl⟩ := kn_rested h2; exact ⟨h1, u⟩
theorem kn_c3 (b : Nat) (w0 : World) (h : Blk w0 b 37 (knL.flatMap encDty)) : CallsV Tryz.prog 20 [knRV, .slice (some ⟨b, 0, none⟩) 2 2, .int .i64 700, .int .i64 60] w0 (fun v w' => v = .tuple #[.int .i64 1300, .int .i64 0] ∧ Ext w0 w') :=
  (Next_c knR knL (some ⟨b, 0, none⟩) b 0 2 700 60 w0 (Sl.ofBlk (enc := encDty) (fun _ => rfl) h) (by decide) (Nat.lt_of_le_of_lt (Nat.zero_le _) h.lt)).mono fun v w' ⟨⟨t, e, h1, h2⟩, u⟩ => by
    obtain ⟨rfl, rfl⟩ := kn_next h2; exact ⟨h1, u⟩
theorem kn_c4 (b c : Nat) (w0 : World) (h : Blk w0 b 79 (knHS.flatMap encHS)) (hx : Blk w0 c 68 ((knX 1).flatMap encLeg)) : CallsV Tryz.prog 27 [knRV, .slice (some ⟨b, 0, none⟩) 2 2, .slice (some ⟨c, 0, none⟩) 3 3] w0 (fun v w' => (∃ ap gp cp a h0 h1 ao g c2, v = .tuple #[.slice ap 3 cp, .int .i64 a, .int .i64 0] ∧ Sl encHR 1 w' ap gp 0 [h0, h1, ⟨[1], ao, g, c2⟩] ∧ Sl encI 1 w' ao g 0 [1] ∧ w0.heap.size ≤ gp ∧ w0.heap.size ≤ g) ∧ Ext w0 w') :=
  (Plan_c knR knHS (some ⟨b, 0, none⟩) b 0 2 (knX 1) (some ⟨c, 0, none⟩) c 0 3 w0 (Sl.ofBlk (enc := encHS) (fun _ => rfl) h) (by decide) (kn_hs w0) (Sl.ofBlk (enc := encLeg) (fun _ => rfl) hx) (by decide) (by decide) (Nat.lt_of_le_of_lt (Nat.zero_le _) h.lt)).mono fun v w' ⟨⟨ap, gp, cp, rows, a, e, h1, h2, h3, hfr, h4⟩, u⟩ => by
    obtain ⟨hp, rfl⟩ := kn_plan h4
    obtain ⟨h0, h9, ao, g, c2, rfl⟩ := kn_rows hp
    exact ⟨⟨ap, gp, cp, a, h0, h9, ao, g, c2, h1, h2, h3 ⟨[1], ao, g, c2⟩ (by simp), hfr.1 (by simp), hfr.2 ⟨[1], ao, g, c2⟩ (by simp) (by simp)⟩, u⟩
theorem kn_c5 (b c : Nat) (w0 : World) (h : Blk w0 b 79 (knHS.flatMap encHS)) (hx : Blk w0 c 68 ((knX 2).flatMap encLeg)) : CallsV Tryz.prog 27 [knRV, .slice (some ⟨b, 0, none⟩) 2 2, .slice (some ⟨c, 0, none⟩) 3 3] w0 (fun v w' => (∃ ap cp, v = .tuple #[.slice ap 0 cp, .int .i64 2, .int .i64 7]) ∧ Ext w0 w') :=
  (Plan_c knR knHS (some ⟨b, 0, none⟩) b 0 2 (knX 2) (some ⟨c, 0, none⟩) c 0 3 w0 (Sl.ofBlk (enc := encHS) (fun _ => rfl) h) (by decide) (kn_hs w0) (Sl.ofBlk (enc := encLeg) (fun _ => rfl) hx) (by decide) (by decide) (Nat.lt_of_le_of_lt (Nat.zero_le _) h.lt)).mono fun v w' ⟨⟨ap, gp, cp, rows, a, e, h1, h2, h3, hfr, h4⟩, u⟩ => by
    obtain ⟨rfl, rfl, hp⟩ := kn_planN h4
    rw [List.map_eq_nil_iff.1 hp] at h1
    exact ⟨⟨ap, cp, h1⟩, u⟩
theorem kn_c6 (b c d b0 b1 b2 : Nat) (w0 : World) (h : Blk w0 b 79 (knHS.flatMap encHS)) (hx : Blk w0 c 68 ((knX 1).flatMap encLeg)) (hd : Blk w0 d 60 [.slice (some ⟨b0, 0, none⟩) 1 1, .slice (some ⟨b1, 0, none⟩) 1 1, .slice (some ⟨b2, 0, none⟩) 1 1]) (h0 : Blk w0 b0 3 [.int .i64 0]) (h1 : Blk w0 b1 3 [.int .i64 0]) (h2 : Blk w0 b2 3 [.int .i64 0]) :
    CallsV Tryz.prog 28 [knRV, .slice (some ⟨b, 0, none⟩) 2 2, .slice (some ⟨c, 0, none⟩) 3 3, .slice (some ⟨d, 0, none⟩) 3 3] w0 (fun v w' => v = .tuple #[.int .i64 2, .int .i64 0] ∧ Ext w0 w') :=
  (Verify_c knR knHS (some ⟨b, 0, none⟩) b 0 2 (knX 1) (some ⟨c, 0, none⟩) c 0 3 [⟨[0], some ⟨b0, 0, none⟩, b0, 0, 1⟩, ⟨[0], some ⟨b1, 0, none⟩, b1, 0, 1⟩, ⟨[0], some ⟨b2, 0, none⟩, b2, 0, 1⟩] (some ⟨d, 0, none⟩) d 0 3 w0 (Sl.ofBlk (enc := encHS) (fun _ => rfl) h) (by decide) (kn_hs w0) (Sl.ofBlk (enc := encLeg) (fun _ => rfl) hx) (by decide) (Sl.ofBlk (enc := encHL) (fun _ => rfl) hd) (by simp)
    (fun y hy => by
      rcases List.mem_cons.1 hy with e | hy
      · rw [e]; exact ⟨Sl.ofBlk (enc := encI) (fun _ => rfl) h0, by simp⟩
      rcases List.mem_cons.1 hy with e | hy
      · rw [e]; exact ⟨Sl.ofBlk (enc := encI) (fun _ => rfl) h1, by simp⟩
      · rw [List.mem_singleton.1 hy]; exact ⟨Sl.ofBlk (enc := encI) (fun _ => rfl) h2, by simp⟩) (Nat.lt_of_le_of_lt (Nat.zero_le _) h.lt)).mono fun v w' ⟨⟨a, e, h1, h2⟩, u⟩ => by
    obtain ⟨rfl, rfl⟩ := kn_ver h2; exact ⟨h1, u⟩
theorem kn_c7 (b c : Nat) (w0 : World) (h : Blk w0 b 79 (knHS.flatMap encHS)) (hx : Blk w0 c 68 ((knX 2).flatMap encLeg)) : CallsV Tryz.prog 37 [knRV, .slice (some ⟨b, 0, none⟩) 2 2, .slice (some ⟨c, 0, none⟩) 3 3] w0 (fun v w' => (∃ ao g cp, v = .tuple #[.slice ao 2 cp, .int .i64 0] ∧ Sl encI 1 w' ao g 0 [0, 2]) ∧ Ext w0 w') :=
  (Short_c knR knHS (some ⟨b, 0, none⟩) b 0 2 (knX 2) (some ⟨c, 0, none⟩) c 0 3 w0 (Sl.ofBlk (enc := encHS) (fun _ => rfl) h) (by decide) (kn_hs w0) (Sl.ofBlk (enc := encLeg) (fun _ => rfl) hx) (by decide) (by decide) (Nat.lt_of_le_of_lt (Nat.zero_le _) h.lt)).mono fun v w' ⟨⟨ao, g, cp, l, e, h1, h2, h3⟩, u⟩ => by
    obtain ⟨rfl, rfl⟩ := kn_short h3; exact ⟨⟨ao, g, cp, h1, h2⟩, u⟩

theorem eqIn44 (n : Nat) (a0 : Int) (a1 : Int) (a2 : Int) (b0 : Int) (b1 : Int) (b2 : Int) (w : World) : (Op.equalIn (n + 2) 44 (.agg #[.int .i64 a0, .int .i64 a1, .int .i64 a2]) (.agg #[.int .i64 b0, .int .i64 b1, .int .i64 b2])).run Tryz.prog w = .ok (decide (a0 = b0) && decide (a1 = b1) && decide (a2 = b2)) w := by
  have hS : Tryz.prog.underlying 44 = some (.struct (Tryz.prog.fieldsOf 44)) := by kernel_rfl
  have hp : Tryz.prog.stoodInHeld 44 = false := by kernel_rfl
  have p0 : ∀ (a0 : Int) (a1 : Int) (a2 : Int), (part 3 #[.int .i64 a0, .int .i64 a1, .int .i64 a2] 0).run Tryz.prog w = .ok (.int .i64 a0) w := fun _ _ _ => by simp [part, isAgg3]
  have p1 : ∀ (a0 : Int) (a1 : Int) (a2 : Int), (part 3 #[.int .i64 a0, .int .i64 a1, .int .i64 a2] 1).run Tryz.prog w = .ok (.int .i64 a1) w := fun _ _ _ => by simp [part, isAgg3]
  have p2 : ∀ (a0 : Int) (a1 : Int) (a2 : Int), (part 3 #[.int .i64 a0, .int .i64 a1, .int .i64 a2] 2).run Tryz.prog w = .ok (.int .i64 a2) w := fun _ _ _ => by simp [part, isAgg3]
  have e3 := fun a b w => equal_i64 underlying3 (n + 0) a b w
  rw [run_equalIn_struct w (n + 1) 44 _ _ hS hp]
  simp only [Program.fieldsOf, underlying44]
  simp only [Op.eqFields, Sem.run_bind, Sem.run_ite, p0, p1, p2, e3, Result.andThen_ok]
  by_cases h0 : a0 = b0 <;> by_cases h1 : a1 = b1 <;> by_cases h2 : a2 = b2 <;> simp [h0, h1, h2]

theorem own8 : Own Tryz.prog 8 := ⟨Tryz.f8, func8, by kernel_rfl, by kernel_rfl⟩
theorem own41 : Own Tryz.prog 41 := ⟨Tryz.f41, func41, by kernel_rfl, by kernel_rfl⟩
theorem own42 : Own Tryz.prog 42 := ⟨Tryz.f42, func42, by kernel_rfl, by kernel_rfl⟩

theorem duty_c (b e : Int) (w0 : World) :
    CallsV Tryz.prog 41 [.int .i64 b, .int .i64 e] w0 (fun v w' => v = .agg #[.int .i64 b, .int .i64 b, .int .i64 e, .int .i64 e] ∧ Ext w0 w') := by
 refine f_enter (N := 12) func41 rfl rfl rfl (c_seq fun K1 hK1 => (c_region (t_alloc (cs := [.int .i64 0, .int .i64 0, .int .i64 0, .int .i64 0]) zeroValue37 rfl rfl rfl (fun bk2 w3 ebk2 sbk2 B4 u5 => ?_))))
 have zu5 := u5.size
 refine t_nil' (hK1 _ _ (c_seq fun K7 hK7 => (c_region (t_move rfl rfl rfl (t_move rfl rfl rfl (t_build (ps := [(0, .int .i64 b), (1, .int .i64 b)]) (v := .agg #[.int .i64 b, .int .i64 b]) rfl rfl ⟨rfl, rfl⟩ (fun w => by kernel_rfl) (t_move rfl rfl rfl (t_move rfl rfl rfl (t_build (ps := [(0, .int .i64 e), (1, .int .i64 e)]) (v := .agg #[.int .i64 e, .int .i64 e]) rfl rfl ⟨rfl, rfl⟩ (fun w => by kernel_rfl) (t_build (ps := [(0, .agg #[.int .i64 b, .int .i64 b]), (1, .agg #[.int .i64 e, .int .i64 e])]) (v := .agg #[.int .i64 b, .int .i64 b, .int .i64 e, .int .i64 e]) rfl rfl ⟨rfl, rfl⟩ (fun w => by kernel_rfl) (t_st (vs := [.int .i64 b, .int .i64 b, .int .i64 e, .int .i64 e]) sizeOf37 rfl rfl rfl B4 rfl rfl rfl rfl (fun w8 sw8 B10 u9 => ?_))))))))))))
 have zu9 := u9.size
 have B10 : Blk w8 bk2 37 [.int .i64 b, .int .i64 b, .int .i64 e, .int .i64 e] := B10
 refine t_nil' (hK7 _ _ (c_ret (f_ret1 (v := .agg #[.int .i64 b, .int .i64 b, .int .i64 e, .int .i64 e]) results41 ⟨_, _, rfl, run_loadVarN (vs := [.int .i64 b, .int .i64 b, .int .i64 e, .int .i64 e]) isAgg37 sizeOf37 rfl (B10.at.sub 0 4)⟩ ?_)))
 exact ⟨rfl, (((Upd.refl (fun _ => False) w0).nx u5).next u9 (fun i hi h => by omega))⟩

theorem rules_c  (w0 : World) :
    CallsV Tryz.prog 42 [] w0 (fun v w' => v = knRV ∧ Ext w0 w') := by
 refine f_enter (N := 2) func42 rfl rfl rfl (c_seq fun K1 hK1 => (c_region (t_alloc (cs := [.int .i64 0, .int .i64 0, .int .i64 0, .int .i64 0, .int .i64 0]) zeroValue23 rfl rfl rfl (fun bk2 w3 ebk2 sbk2 B4 u5 => ?_))))
 have zu5 := u5.size
 refine t_nil' (hK1 _ _ (c_seq fun K7 hK7 => (c_region (t_build (ps := [(0, .int .i64 600), (1, .int .i64 840), (2, .int .i64 600), (3, .int .i64 2880), (4, .int .i64 1000)]) (v := .agg #[.int .i64 600, .int .i64 840, .int .i64 600, .int .i64 2880, .int .i64 1000]) rfl rfl ⟨rfl, rfl⟩ (fun w => by kernel_rfl) (t_st (vs := [.int .i64 600, .int .i64 840, .int .i64 600, .int .i64 2880, .int .i64 1000]) sizeOf23 rfl rfl rfl B4 rfl rfl rfl rfl (fun w8 sw8 B10 u9 => ?_))))))
 have zu9 := u9.size
 have B10 : Blk w8 bk2 23 [.int .i64 600, .int .i64 840, .int .i64 600, .int .i64 2880, .int .i64 1000] := B10
 refine t_nil' (hK7 _ _ (c_ret (f_ret1 (v := .agg #[.int .i64 600, .int .i64 840, .int .i64 600, .int .i64 2880, .int .i64 1000]) results42 ⟨_, _, rfl, run_loadVarN (vs := [.int .i64 600, .int .i64 840, .int .i64 600, .int .i64 2880, .int .i64 1000]) isAgg23 sizeOf23 rfl (B10.at.sub 0 5)⟩ ?_)))
 exact ⟨rfl, (((Upd.refl (fun _ => False) w0).nx u5).next u9 (fun i hi h => by omega))⟩

set_option maxHeartbeats 1000000 in
theorem known_c  (w0 : World) :
    CallsV Tryz.prog 8 [] w0 (fun v w' => v = .bool true ∧ Ext w0 w') := by
 refine f_enter (N := 197) func8 rfl rfl rfl (c_seq fun K1 hK1 => (c_region (t_assign rfl rfl rfl (t_nil' (hK1 _ _ (c_seq fun K2 hK2 => (c_region (t_call own41 rfl rfl rfl rfl (duty_c 0 300 _) (fun v3 w4 r6 => ?_)))))))))
 obtain ⟨rfl, u5⟩ := r6
 have zu5 := u5.size
 refine t_call own41 rfl rfl rfl rfl (duty_c 400 700 _) (fun v8 w9 r11 => ?_)
 obtain ⟨rfl, u10⟩ := r11
 have zu10 := u10.size
 refine t_bslice (ps := [(0, .agg #[.int .i64 0, .int .i64 0, .int .i64 300, .int .i64 300]), (1, .agg #[.int .i64 400, .int .i64 400, .int .i64 700, .int .i64 700])]) (cs := [.int .i64 0, .int .i64 0, .int .i64 300, .int .i64 300, .int .i64 400, .int .i64 400, .int .i64 700, .int .i64 700]) (e := 37) rfl rfl ⟨rfl, rfl⟩ (fun w => by kernel_rfl) (fun bk13 w14 ebk13 sbk13 B15 u16 => ?_)
 have zu16 := u16.size
 refine t_assign rfl rfl rfl (t_nil' (hK2 _ _ (c_seq fun K18 hK18 => (c_region (t_call own42 rfl rfl rfl rfl (rules_c _) (fun v19 w20 r22 => ?_))))))
 obtain ⟨rfl, u21⟩ := r22
 have zu21 := u21.size
 refine t_move rfl rfl rfl ?_
 have B24 := (B15.kx u21)
 refine t_call own11 rfl rfl rfl rfl (kn_c1 bk13 _ B24) (fun v25 w26 r28 => ?_)
 obtain ⟨⟨aoS, gS, cS, rfl, hS⟩, u27⟩ := r28
 have zu27 := u27.size
 have lt_kS := hS.lt (Nat.succ_pos _)
 refine t_move rfl rfl rfl (t_extract rfl rfl rfl rfl (t_extract rfl rfl rfl rfl (t_assign rfl rfl rfl (t_assign rfl rfl rfl (t_nil' (hK18 _ _ (c_seq fun K30 hK30 => (c_region (t_call own42 rfl rfl rfl rfl (rules_c _) (fun v31 w32 r34 => ?_))))))))))
 obtain ⟨rfl, u33⟩ := r34
 have zu33 := u33.size
 refine t_call own41 rfl rfl rfl rfl (duty_c 0 300 _) (fun v36 w37 r39 => ?_)
 obtain ⟨rfl, u38⟩ := r39
 have zu38 := u38.size
 refine t_call own41 rfl rfl rfl rfl (duty_c 899 1200 _) (fun v41 w42 r44 => ?_)
 obtain ⟨rfl, u43⟩ := r44
 have zu43 := u43.size
 refine t_bslice (ps := [(0, .agg #[.int .i64 0, .int .i64 0, .int .i64 300, .int .i64 300]), (1, .agg #[.int .i64 899, .int .i64 899, .int .i64 1200, .int .i64 1200])]) (cs := [.int .i64 0, .int .i64 0, .int .i64 300, .int .i64 300, .int .i64 899, .int .i64 899, .int .i64 1200, .int .i64 1200]) (e := 37) rfl rfl ⟨rfl, rfl⟩ (fun w => by kernel_rfl) (fun bk46 w47 ebk46 sbk46 B48 u49 => ?_)
 have zu49 := u49.size
 refine t_call own12 rfl rfl rfl rfl (kn_c2 bk46 _ B48) (fun v51 w52 r54 => ?_)
 obtain ⟨rfl, u53⟩ := r54
 have zu53 := u53.size
 refine t_move rfl rfl rfl (t_extract rfl rfl rfl rfl (t_extract rfl rfl rfl rfl (t_extract rfl rfl rfl rfl (t_extract rfl rfl rfl rfl (t_assign rfl rfl rfl (t_assign rfl rfl rfl (t_assign rfl rfl rfl (t_assign rfl rfl rfl (t_nil' (hK30 _ _ (c_seq fun K56 hK56 => (c_region (t_call own42 rfl rfl rfl rfl (rules_c _) (fun v57 w58 r60 => ?_))))))))))))))
 obtain ⟨rfl, u59⟩ := r60
 have zu59 := u59.size
 refine t_move rfl rfl rfl ?_
 have B62 := (((((((B24.kx u27).kx u33).kx u38).kx u43).kx u49).kx u53).kx u59)
 refine t_call own20 rfl rfl rfl rfl (kn_c3 bk13 _ B62) (fun v63 w64 r66 => ?_)
 obtain ⟨rfl, u65⟩ := r66
 have zu65 := u65.size
 refine t_move rfl rfl rfl (t_extract rfl rfl rfl rfl (t_extract rfl rfl rfl rfl (t_assign rfl rfl rfl (t_assign rfl rfl rfl (t_nil' (hK56 _ _ (c_seq fun K68 hK68 => (c_region (t_build (ps := [(1, .int .i64 20160)]) (v := .agg #[.int .i64 0, .int .i64 20160, .slice none 0 0, .slice none 0 0]) rfl rfl ⟨rfl, rfl⟩ (fun w => by kernel_rfl) (t_build (ps := [(1, .int .i64 20160)]) (v := .agg #[.int .i64 0, .int .i64 20160, .slice none 0 0, .slice none 0 0]) rfl rfl ⟨rfl, rfl⟩ (fun w => by kernel_rfl) (t_bslice (ps := [(0, .agg #[.int .i64 0, .int .i64 20160, .slice none 0 0, .slice none 0 0]), (1, .agg #[.int .i64 0, .int .i64 20160, .slice none 0 0, .slice none 0 0])]) (cs := [.int .i64 0, .int .i64 20160, .slice none 0 0, .slice none 0 0, .int .i64 0, .int .i64 20160, .slice none 0 0, .slice none 0 0]) (e := 79) rfl rfl ⟨rfl, rfl⟩ (fun w => by kernel_rfl) (fun bk69 w70 ebk69 sbk69 B71 u72 => ?_))))))))))))
 have zu72 := u72.size
 refine t_assign rfl rfl rfl (t_nil' (hK68 _ _ (c_seq fun K74 hK74 => (c_region (t_call own41 rfl rfl rfl rfl (duty_c 0 300 _) (fun v75 w76 r78 => ?_))))))
 obtain ⟨rfl, u77⟩ := r78
 have zu77 := u77.size
 refine t_build (ps := [(1, .agg #[.int .i64 0, .int .i64 0, .int .i64 300, .int .i64 300]), (2, .int .i64 1)]) (v := .agg #[.int .i64 0, .int .i64 0, .int .i64 0, .int .i64 300, .int .i64 300, .int .i64 1, .int .i64 0]) rfl rfl ⟨rfl, rfl⟩ (fun w => by kernel_rfl) (t_call own41 rfl rfl rfl rfl (duty_c 300 600 _) (fun v80 w81 r83 => ?_))
 obtain ⟨rfl, u82⟩ := r83
 have zu82 := u82.size
 refine t_build (ps := [(1, .agg #[.int .i64 300, .int .i64 300, .int .i64 600, .int .i64 600]), (2, .int .i64 1)]) (v := .agg #[.int .i64 0, .int .i64 300, .int .i64 300, .int .i64 600, .int .i64 600, .int .i64 1, .int .i64 0]) rfl rfl ⟨rfl, rfl⟩ (fun w => by kernel_rfl) (t_call own41 rfl rfl rfl rfl (duty_c 600 900 _) (fun v85 w86 r88 => ?_))
 obtain ⟨rfl, u87⟩ := r88
 have zu87 := u87.size
 refine t_build (ps := [(1, .agg #[.int .i64 600, .int .i64 600, .int .i64 900, .int .i64 900]), (2, .int .i64 1)]) (v := .agg #[.int .i64 0, .int .i64 600, .int .i64 600, .int .i64 900, .int .i64 900, .int .i64 1, .int .i64 0]) rfl rfl ⟨rfl, rfl⟩ (fun w => by kernel_rfl) (t_bslice (ps := [(0, .agg #[.int .i64 0, .int .i64 0, .int .i64 0, .int .i64 300, .int .i64 300, .int .i64 1, .int .i64 0]), (1, .agg #[.int .i64 0, .int .i64 300, .int .i64 300, .int .i64 600, .int .i64 600, .int .i64 1, .int .i64 0]), (2, .agg #[.int .i64 0, .int .i64 600, .int .i64 600, .int .i64 900, .int .i64 900, .int .i64 1, .int .i64 0])]) (cs := [.int .i64 0, .int .i64 0, .int .i64 0, .int .i64 300, .int .i64 300, .int .i64 1, .int .i64 0, .int .i64 0, .int .i64 300, .int .i64 300, .int .i64 600, .int .i64 600, .int .i64 1, .int .i64 0, .int .i64 0, .int .i64 600, .int .i64 600, .int .i64 900, .int .i64 900, .int .i64 1, .int .i64 0]) (e := 68) rfl rfl ⟨rfl, rfl⟩ (fun w => by kernel_rfl) (fun bk90 w91 ebk90 sbk90 B92 u93 => ?_))
 have zu93 := u93.size
 refine t_assign rfl rfl rfl (t_nil' (hK74 _ _ (c_seq fun K95 hK95 => (c_region (t_call own42 rfl rfl rfl rfl (rules_c _) (fun v96 w97 r99 => ?_))))))
 obtain ⟨rfl, u98⟩ := r99
 have zu98 := u98.size
 refine t_move rfl rfl rfl (t_move rfl rfl rfl ?_)
 have B101 := (((((B71.kx u77).kx u82).kx u87).kx u93).kx u98)
 have B102 := (B92.kx u98)
 refine t_call own27 rfl rfl rfl rfl (kn_c4 bk69 bk90 _ B101 B102) (fun v103 w104 r106 => ?_)
 obtain ⟨⟨apP, gP, cpP, aP9, pH0, pH1, aP2, gP2, cP2, rfl, hP, hP2, geP, geP2⟩, u105⟩ := r106
 have zu105 := u105.size
 have lt_kP := hP.lt (Nat.succ_pos _)
 have lt_kP2 := hP2.lt (Nat.succ_pos _)
 refine t_move rfl rfl rfl (t_extract rfl rfl rfl rfl (t_extract rfl rfl rfl rfl (t_extract rfl rfl rfl rfl (t_assign rfl rfl rfl (t_assign rfl rfl rfl (t_assign rfl rfl rfl (t_nil' (hK95 _ _ (c_seq fun K108 hK108 => (c_region (t_call own42 rfl rfl rfl rfl (rules_c _) (fun v109 w110 r112 => ?_))))))))))))
 obtain ⟨rfl, u111⟩ := r112
 have zu111 := u111.size
 refine t_move rfl rfl rfl (t_move rfl rfl rfl (t_bslice (ps := [(0, .int .i64 0)]) (cs := [.int .i64 0]) (e := 3) rfl rfl ⟨rfl, rfl⟩ (fun w => by kernel_rfl) (fun bk114 w115 ebk114 sbk114 B116 u117 => ?_)))
 have zu117 := u117.size
 refine t_bslice (ps := [(0, .int .i64 0)]) (cs := [.int .i64 0]) (e := 3) rfl rfl ⟨rfl, rfl⟩ (fun w => by kernel_rfl) (fun bk119 w120 ebk119 sbk119 B121 u122 => ?_)
 have zu122 := u122.size
 refine t_bslice (ps := [(0, .int .i64 0)]) (cs := [.int .i64 0]) (e := 3) rfl rfl ⟨rfl, rfl⟩ (fun w => by kernel_rfl) (fun bk124 w125 ebk124 sbk124 B126 u127 => ?_)
 have zu127 := u127.size
 refine t_bslice (ps := [(0, .slice (some ⟨bk114, 0, none⟩) 1 1), (1, .slice (some ⟨bk119, 0, none⟩) 1 1), (2, .slice (some ⟨bk124, 0, none⟩) 1 1)]) (cs := [.slice (some ⟨bk114, 0, none⟩) 1 1, .slice (some ⟨bk119, 0, none⟩) 1 1, .slice (some ⟨bk124, 0, none⟩) 1 1]) (e := 60) rfl rfl ⟨rfl, rfl⟩ (fun w => by kernel_rfl) (fun bk129 w130 ebk129 sbk129 B131 u132 => ?_)
 have zu132 := u132.size
 have B134 := ((((((B101.kx u105).kx u111).kx u117).kx u122).kx u127).kx u132)
 have B135 := ((((((B102.kx u105).kx u111).kx u117).kx u122).kx u127).kx u132)
 have B136 := (((B116.kx u122).kx u127).kx u132)
 have B137 := ((B121.kx u127).kx u132)
 have B138 := (B126.kx u132)
 refine t_call own28 rfl rfl rfl rfl (kn_c6 bk69 bk90 bk129 bk114 bk119 bk124 _ B134 B135 B131 B136 B137 B138) (fun v139 w140 r142 => ?_)
 obtain ⟨rfl, u141⟩ := r142
 have zu141 := u141.size
 refine t_move rfl rfl rfl (t_extract rfl rfl rfl rfl (t_extract rfl rfl rfl rfl (t_assign rfl rfl rfl (t_assign rfl rfl rfl (t_nil' (hK108 _ _ (c_seq fun K144 hK144 => (c_region (t_move rfl rfl rfl (t_move rfl rfl rfl (t_move rfl rfl rfl (t_index (j := 0) underlying55 sizeOf68 rfl rfl rfl rfl rfl rfl (by omega) (t_field underlying68 rfl sizeOf3 (5) rfl rfl rfl rfl ?_)))))))))))))
 have B145 := (B135.kx u141)
 refine t_st (vs := [.int .i64 2]) sizeOf3 rfl rfl rfl B145 rfl rfl rfl rfl (fun w146 sw146 B148 u147 => ?_)
 have zu147 := u147.size
 have B148 : Blk w146 bk90 68 [.int .i64 0, .int .i64 0, .int .i64 0, .int .i64 300, .int .i64 300, .int .i64 2, .int .i64 0, .int .i64 0, .int .i64 300, .int .i64 300, .int .i64 600, .int .i64 600, .int .i64 1, .int .i64 0, .int .i64 0, .int .i64 600, .int .i64 600, .int .i64 900, .int .i64 900, .int .i64 1, .int .i64 0] := B148
 refine t_index (j := 1) underlying55 sizeOf68 rfl rfl rfl rfl rfl rfl (by omega) (t_field underlying68 rfl sizeOf3 (12) rfl rfl rfl rfl (t_st (vs := [.int .i64 2]) sizeOf3 rfl rfl rfl B148 rfl rfl rfl rfl (fun w150 sw150 B152 u151 => ?_)))
 have zu151 := u151.size
 have B152 : Blk w150 bk90 68 [.int .i64 0, .int .i64 0, .int .i64 0, .int .i64 300, .int .i64 300, .int .i64 2, .int .i64 0, .int .i64 0, .int .i64 300, .int .i64 300, .int .i64 600, .int .i64 600, .int .i64 2, .int .i64 0, .int .i64 0, .int .i64 600, .int .i64 600, .int .i64 900, .int .i64 900, .int .i64 1, .int .i64 0] := B152
 refine t_index (j := 2) underlying55 sizeOf68 rfl rfl rfl rfl rfl rfl (by omega) (t_field underlying68 rfl sizeOf3 (19) rfl rfl rfl rfl (t_st (vs := [.int .i64 2]) sizeOf3 rfl rfl rfl B152 rfl rfl rfl rfl (fun w154 sw154 B156 u155 => ?_)))
 have zu155 := u155.size
 have B156 : Blk w154 bk90 68 [.int .i64 0, .int .i64 0, .int .i64 0, .int .i64 300, .int .i64 300, .int .i64 2, .int .i64 0, .int .i64 0, .int .i64 300, .int .i64 300, .int .i64 600, .int .i64 600, .int .i64 2, .int .i64 0, .int .i64 0, .int .i64 600, .int .i64 600, .int .i64 900, .int .i64 900, .int .i64 2, .int .i64 0] := B156
 refine t_nil' (hK144 _ _ (c_seq fun K158 hK158 => (c_region (t_call own42 rfl rfl rfl rfl (rules_c _) (fun v159 w160 r162 => ?_)))))
 obtain ⟨rfl, u161⟩ := r162
 have zu161 := u161.size
 refine t_move rfl rfl rfl (t_move rfl rfl rfl ?_)
 have B164 := (((((B134.kx u141).keep u147 (by omega)).keep u151 (by omega)).keep u155 (by omega)).kx u161)
 have B165 := (B156.kx u161)
 refine t_call own37 rfl rfl rfl rfl (kn_c7 bk69 bk90 _ B164 B165) (fun v166 w167 r169 => ?_)
 obtain ⟨⟨aoH, gH, cH, rfl, hH⟩, u168⟩ := r169
 have zu168 := u168.size
 have lt_kH := hH.lt (Nat.succ_pos _)
 refine t_move rfl rfl rfl (t_extract rfl rfl rfl rfl (t_extract rfl rfl rfl rfl (t_assign rfl rfl rfl (t_assign rfl rfl rfl (t_nil' (hK158 _ _ (c_seq fun K171 hK171 => (c_region (t_call own42 rfl rfl rfl rfl (rules_c _) (fun v172 w173 r175 => ?_))))))))))
 obtain ⟨rfl, u174⟩ := r175
 have zu174 := u174.size
 refine t_move rfl rfl rfl (t_move rfl rfl rfl ?_)
 have B177 := ((B164.kx u168).kx u174)
 have B178 := ((B165.kx u168).kx u174)
 refine t_call own27 rfl rfl rfl rfl (kn_c5 bk69 bk90 _ B177 B178) (fun v179 w180 r182 => ?_)
 obtain ⟨⟨apQ, cpQ, rfl⟩, u181⟩ := r182
 have zu181 := u181.size
 refine t_move rfl rfl rfl (t_extract rfl rfl rfl rfl (t_extract rfl rfl rfl rfl (t_extract rfl rfl rfl rfl (t_assign rfl rfl rfl (t_assign rfl rfl rfl (t_assign rfl rfl rfl (t_nil' (hK171 _ _ (c_seq fun K184 hK184 => (c_seq fun K185 hK185 => (c_region (t_move rfl rfl rfl (t_cmp rfl rfl rfl rfl rfl (t_samehd (v := .bool false) rfl (t_move rfl rfl rfl (t_move rfl rfl rfl (t_cmp rfl rfl rfl rfl rfl (t_samehd (v := .bool false) rfl (t_pick_f rfl rfl rfl rfl (t_move rfl rfl rfl (t_move rfl rfl rfl (t_cmp rfl rfl rfl rfl rfl (t_samehd (v := .bool false) rfl ?_)))))))))))))))))))))))
 refine t_pick_f rfl rfl rfl rfl (t_move rfl rfl rfl (t_move rfl rfl rfl (t_cmp rfl rfl rfl rfl rfl (t_samehd (v := .bool false) rfl (t_pick_f rfl rfl rfl rfl (t_move rfl rfl rfl (t_move rfl rfl rfl (t_cmp rfl rfl rfl rfl rfl (t_samehd (v := .bool false) rfl (t_pick_f rfl rfl rfl rfl (t_move rfl rfl rfl (t_move rfl rfl rfl (t_cmp rfl rfl rfl rfl rfl (t_samehd (v := .bool false) rfl (t_pick_f rfl rfl rfl rfl (t_move rfl rfl rfl (t_move rfl rfl rfl (t_cmp rfl rfl rfl rfl rfl (t_samehd (v := .bool false) rfl (t_pick_f rfl rfl rfl rfl (t_move rfl rfl rfl (t_move rfl rfl rfl (t_len underlying29 rfl rfl rfl rfl ?_)))))))))))))))))))))))
 refine t_cmp rfl rfl rfl rfl rfl (t_samehd (v := .bool false) rfl (t_pick_f rfl rfl rfl rfl (t_move rfl rfl rfl (t_move rfl rfl rfl (t_len underlying56 rfl rfl rfl rfl (t_cmp rfl rfl rfl rfl rfl (t_samehd (v := .bool false) rfl (t_pick_f rfl rfl rfl rfl (t_move rfl rfl rfl (t_move rfl rfl rfl ?_))))))))))
 have D186 := (((((((((((((hP.kE u111).kE u117).kE u122).kE u127).kE u132).kE u141).keep u147 (fun _ => by show ¬ (gP = bk90); omega)).keep u151 (fun _ => by show ¬ (gP = bk90); omega)).keep u155 (fun _ => by show ¬ (gP = bk90); omega)).kE u161).kE u168).kE u174).kE u181)
 have i187 : 2 < ([pH0, pH1, ⟨[1], aP2, gP2, cP2⟩] : List HR).length := (by first | decide | simp)
 refine t_index (j := 2) underlying56 sizeOf60 rfl rfl rfl rfl (D186.addr (by omega)) rfl (by first | omega | decide | exact Nat.succ_pos _ | exact Nat.succ_lt_succ (Nat.succ_pos _) | simp) (t_load isAgg60 rfl rfl rfl ((D186.at_ 2 (by first | decide | simp)) 0 _ rfl) (t_len underlying60 rfl rfl rfl rfl (t_cmp rfl rfl rfl rfl rfl (t_samehd (v := .bool false) rfl (t_pick_f rfl rfl rfl rfl (t_move rfl rfl rfl (t_move rfl rfl rfl (t_len underlying60 rfl rfl rfl rfl (t_cmp rfl rfl rfl rfl rfl (t_samehd (v := .bool false) rfl (t_pick_f rfl rfl rfl rfl (t_nil' (hK185 _ _ (c_cond_f rfl (c_skip (hK184 _ _ (c_seq fun K188 hK188 => (c_region (t_move rfl rfl rfl ?_)))))))))))))))))))
 have D189 := (((((((((((((((((((((((((((hS.kE u33).kE u38).kE u43).kE u49).kE u53).kE u59).kE u65).kE u72).kE u77).kE u82).kE u87).kE u93).kE u98).kE u105).kE u111).kE u117).kE u122).kE u127).kE u132).kE u141).keep u147 (fun _ => by show ¬ (gS = bk90); omega)).keep u151 (fun _ => by show ¬ (gS = bk90); omega)).keep u155 (fun _ => by show ¬ (gS = bk90); omega)).kE u161).kE u168).kE u174).kE u181)
 have i190 : 0 < ([⟨0, 700, 600⟩] : List Shf).length := (by first | decide | simp)
 refine t_index (j := 0) underlying29 sizeOf44 rfl rfl rfl rfl (D189.addr (by omega)) rfl (by first | omega | decide | exact Nat.succ_pos _ | exact Nat.succ_lt_succ (Nat.succ_pos _) | simp) (t_loadN (vs := [.int .i64 0, .int .i64 700, .int .i64 600]) isAgg44 sizeOf44 rfl rfl rfl ((D189.at_ 0 (by first | decide | simp)).sub 0 3) rfl (t_build (ps := [(1, .int .i64 700), (2, .int .i64 600)]) (v := .agg #[.int .i64 0, .int .i64 700, .int .i64 600]) rfl rfl ⟨rfl, rfl⟩ (fun w => by kernel_rfl) (t_eqS (xs := [.int .i64 0, .int .i64 700, .int .i64 600]) (ys := [.int .i64 0, .int .i64 700, .int .i64 600]) (by kernel_rfl) (eqIn44 9998 0 700 600 0 700 600) rfl rfl rfl rfl (t_samehd (v := .bool true) rfl (t_move rfl rfl rfl (t_move rfl rfl rfl (t_cmp rfl rfl rfl rfl rfl (t_samehd (v := .bool true) rfl (t_pick_t rfl rfl rfl rfl (t_move rfl rfl rfl (t_move rfl rfl rfl (t_cmp rfl rfl rfl rfl rfl (t_samehd (v := .bool true) rfl (t_pick_t rfl rfl rfl rfl (t_move rfl rfl rfl (t_move rfl rfl rfl (t_not rfl rfl rfl (t_pick_t rfl rfl rfl rfl (t_move rfl rfl rfl (t_move rfl rfl rfl (t_cmp rfl rfl rfl rfl rfl (t_samehd (v := .bool true) rfl (t_pick_t rfl rfl rfl rfl ?_)))))))))))))))))))))))
 refine t_move rfl rfl rfl (t_move rfl rfl rfl ?_)
 have i191 : 2 < ([pH0, pH1, ⟨[1], aP2, gP2, cP2⟩] : List HR).length := (by first | decide | simp)
 refine t_index (j := 2) underlying56 sizeOf60 rfl rfl rfl rfl (D186.addr (by omega)) rfl (by first | omega | decide | exact Nat.succ_pos _ | exact Nat.succ_lt_succ (Nat.succ_pos _) | simp) (t_load isAgg60 rfl rfl rfl ((D186.at_ 2 (by first | decide | simp)) 0 _ rfl) ?_)
 have D192 := (((((((((((((hP2.kE u111).kE u117).kE u122).kE u127).kE u132).kE u141).keep u147 (fun _ => by show ¬ (gP2 = bk90); omega)).keep u151 (fun _ => by show ¬ (gP2 = bk90); omega)).keep u155 (fun _ => by show ¬ (gP2 = bk90); omega)).kE u161).kE u168).kE u174).kE u181)
 have i193 : 0 < ([1] : List Int).length := (by first | decide | simp)
 refine t_index (j := 0) underlying60 sizeOf3 rfl rfl rfl rfl (D192.addr (by omega)) rfl (by first | omega | decide | exact Nat.succ_pos _ | exact Nat.succ_lt_succ (Nat.succ_pos _) | simp) (t_load isAgg3 rfl rfl rfl ((D192.at_ 0 (by first | decide | simp)) 0 _ rfl) (t_cmp rfl rfl rfl rfl rfl (t_samehd (v := .bool true) rfl (t_pick_t rfl rfl rfl rfl (t_move rfl rfl rfl (t_move rfl rfl rfl (t_cmp rfl rfl rfl rfl rfl (t_samehd (v := .bool true) rfl (t_pick_t rfl rfl rfl rfl (t_move rfl rfl rfl (t_move rfl rfl rfl ?_)))))))))))
 have D194 := ((hH.kE u174).kE u181)
 have i195 : 0 < ([0, 2] : List Int).length := (by first | decide | simp)
 refine t_index (j := 0) underlying60 sizeOf3 rfl rfl rfl rfl (D194.addr (by omega)) rfl (by first | omega | decide | exact Nat.succ_pos _ | exact Nat.succ_lt_succ (Nat.succ_pos _) | simp) (t_load isAgg3 rfl rfl rfl ((D194.at_ 0 (by first | decide | simp)) 0 _ rfl) (t_cmp rfl rfl rfl rfl rfl (t_samehd (v := .bool true) rfl (t_pick_t rfl rfl rfl rfl (t_move rfl rfl rfl (t_move rfl rfl rfl ?_))))))
 have i196 : 1 < ([0, 2] : List Int).length := (by first | decide | simp)
 refine t_index (j := 1) underlying60 sizeOf3 rfl rfl rfl rfl (D194.addr (by omega)) rfl (by first | omega | decide | exact Nat.succ_pos _ | exact Nat.succ_lt_succ (Nat.succ_pos _) | simp) (t_load isAgg3 rfl rfl rfl ((D194.at_ 1 (by first | decide | simp)) 0 _ rfl) (t_cmp rfl rfl rfl rfl rfl (t_samehd (v := .bool true) rfl (t_pick_t rfl rfl rfl rfl (t_move rfl rfl rfl (t_move rfl rfl rfl (t_cmp rfl rfl rfl rfl rfl (t_samehd (v := .bool true) rfl (t_pick_t rfl rfl rfl rfl (t_assign rfl rfl rfl (t_nil' (hK188 _ _ (c_ret (f_ret1 (v := .bool true) results8 rfl ?_))))))))))))))
 exact ⟨rfl, (((((((((((((((((((((((((((((((((Upd.refl (fun _ => False) w0).nx u5).nx u10).nx u16).nx u21).nx u27).nx u33).nx u38).nx u43).nx u49).nx u53).nx u59).nx u65).nx u72).nx u77).nx u82).nx u87).nx u93).nx u98).nx u105).nx u111).nx u117).nx u122).nx u127).nx u132).nx u141).next u147 (fun i hi h => by omega)).next u151 (fun i hi h => by omega)).next u155 (fun i hi h => by omega)).nx u161).nx u168).nx u174).nx u181)⟩

end Go.Proofs.YtagmodjadmecdaaGreat
namespace Go.Proofs.YtagmodjadmecdaaGreat
open Go Go.RowKit Tryz

structure U5 where
  a : Int
  b : Int
  c : Int
  d : Int
  e : Int
instance : Inhabited U5 := ⟨⟨default, default, default, default, default⟩⟩
structure U4 where
  a : Int
  b : Int
  c : Int
  d : Int
instance : Inhabited U4 := ⟨⟨default, default, default, default⟩⟩
theorem ok_snoc {l : List Dty} {d : Dty} (h : ∀ d ∈ l, okDty d = true) (hd : okDty d = true) : ∀ x ∈ l ++ [d], okDty x = true := fun x hx => by
  rcases List.mem_append.1 hx with hx | hx
  · exact h x hx
  · rw [List.mem_singleton.1 hx]; exact hd
theorem lng_snoc (l : List Dty) (d : Dty) : srtS ((l ++ [d]).map lngS) = insS (lngS d) (srtS (l.map lngS)) := by rw [ins_srtS, List.map_append]; rfl

theorem own9 : Own Tryz.prog 9 := ⟨Tryz.f9, func9, by kernel_rfl, by kernel_rfl⟩

theorem duties_c (l : List Dty) (al : Option Addr) (bl ol cl : Nat) (w0 : World) (hl : Sl encDty 4 w0 al bl ol l) (hll : l.length ≤ 1000000) (hpos : 0 < w0.heap.size) :
    CallsV Tryz.prog 9 [.slice al l.length cl] w0 (fun v w' => (∃ ao g cp, v = .slice ao (List.length l) cp ∧ Acc encDty 4 37 w0.heap.size w' ao g cp l) ∧ Ext w0 w') := by
 refine f_enter (N := 6) func9 rfl rfl rfl (c_seq fun K1 hK1 => (c_region (t_assign rfl rfl rfl (t_nil' (hK1 _ _ (c_seq fun K2 hK2 => (c_region (t_bslice (ps := []) (cs := []) (e := 37) rfl rfl ⟨rfl, rfl⟩ (fun w => by kernel_rfl) (fun bk3 w4 ebk3 sbk3 B5 u6 => ?_)))))))))
 have zu6 := u6.size
 have E7 := (Upd.refl (fun _ => False) w0).nx u6
 refine t_move rfl rfl rfl (t_copy (enc := encDty) (z := .agg #[.int .i64 0, .int .i64 0, .int .i64 0, .int .i64 0]) (bytes := 32) (k := 4) (ys := l) underlying24 (by kernel_rfl) rfl (by decide) (fun _ => rfl) (by intro x; simp [encDty, Value.oneCell']) rfl rfl rfl rfl B5 (hl.keep E7 (fun _ h => h)) (by omega) (by decide) (fun ao8 gb9 cp10 w11 A12 u13 gegb9 => ?_))
 have zu13 := u13.size
 have lt_gb9 := A12.lt
 refine t_assign rfl rfl rfl (t_nil' (hK2 _ _ (c_ret (f_ret1 (v := .slice ao8 l.length cp10) results9 rfl ?_))))
 obtain ⟨g9, ha9⟩ := Acc.lower (base' := w0.heap.size) A12 (by omega) hpos
 exact ⟨⟨ao8, g9, cp10, rfl, ha9⟩, (E7.next u13 (fun i hi h => by omega))⟩


end Go.Proofs.YtagmodjadmecdaaGreat
namespace Go.Proofs.YtagmodjadmecdaaGreat
open Go Go.RowKit Tryz

theorem Acc.takeN {α : Type} {enc : α → List Value} {k : Nat} {e : TypeId} {base : Nat} {w : World} {ao : Option Addr} {g cap : Nat} {xs : List α} (hk : ∀ x, (enc x).length = k) (h : Acc enc k e base w ao g cap xs) (n : Nat) : Acc enc k e base w ao g cap (xs.take n) := by
  refine ⟨h.lt, ?_⟩
  rcases h.at_ with ⟨h1, h2, h3, h4⟩ | ⟨h1, h2, cur, h3, h4, h5, h6, h7⟩
  · exact .inl ⟨h1, by rw [h2]; simp, h3, h4⟩
  · refine .inr ⟨h1, h2, cur, h3, by rw [List.length_take]; omega, h5, h6, ?_⟩
    have h9 := congrArg (List.take ((xs.take n).length * k)) h7
    rw [List.take_take, Nat.min_eq_left (Nat.mul_le_mul_right k (by rw [List.length_take]; omega))] at h9
    have e9 : xs.flatMap enc = (xs.take n).flatMap enc ++ (xs.drop n).flatMap enc := by rw [← List.flatMap_append, List.take_append_drop]
    have e8 := flatMap_len hk (xs.take n)
    rw [h9, e9, List.take_append_of_le_length (by omega), List.take_of_length_le (by omega)]
theorem Acc.subTo0 {α : Type} {enc : α → List Value} {k j : Nat} {e : TypeId} {base : Nat} {w : World} {ao : Option Addr} {g cap : Nat} {xs : List α} (h : Acc enc k e base w ao g cap xs) : subAddr ao cap 0 j = ao := by
  unfold subAddr
  split
  · rfl
  · rcases h.at_ with ⟨h1, _⟩ | ⟨h1, _⟩
    · rw [h1]; rfl
    · rw [h1, Nat.zero_mul]; simp [addr_add]
theorem Sl.from_ {α : Type} [Inhabited α] {enc : α → List Value} {k : Nat} {w : World} {ao : Option Addr} {b o : Nat} {xs : List α} (h : Sl enc k w ao b o xs) (cap l : Nat) (hc : xs.length ≤ cap) : Sl enc k w (subAddr ao cap l k) b (o + l * k) (xs.drop l) := by
  have h9 := h.sub cap l xs.length hc
  rwa [List.take_of_length_le (by rw [List.length_drop]; omega)] at h9
theorem put_srt {s : Sp} {l : List Sp} {k : Nat} (h : Srt l) (hk : k ≤ l.length) (h1 : 0 < k → ¬ LtS s (nth l (k - 1))) (h2 : ∀ j, k ≤ j → j < l.length → LtS s (nth l j)) : Srt (l.take k ++ s :: l.drop k) := by
  have hs : ∀ {x y : Sp}, ¬ LtS y x → ¬ LtS x y → x = y := fun {x y} a b => by cases x; cases y; unfold LtS at a b; simp only [] at a b; simp only [Sp.mk.injEq]; omega
  unfold Srt
  rw [List.pairwise_append]
  refine ⟨h.sublist (List.take_sublist _ _), List.pairwise_cons.2 ⟨fun y hy => ?_, h.sublist (List.drop_sublist _ _)⟩, fun x hx y hy => ?_⟩
  · obtain ⟨j, hj, rfl⟩ := List.getElem_of_mem hy
    rw [List.getElem_drop, ← nth_eq]
    rw [List.length_drop] at hj
    have := h2 (k + j) (by omega) (by omega)
    unfold LtS at this ⊢; omega
  · obtain ⟨i, hi, rfl⟩ := List.getElem_of_mem hx
    rw [List.length_take] at hi
    rw [List.getElem_take, ← nth_eq]
    rcases List.mem_cons.1 hy with e | hy
    · subst e
      have h3 := h1 (by omega)
      rcases Nat.lt_or_ge i (k - 1) with q | q
      · have h4 := List.pairwise_iff_getElem.1 h i (k - 1) (by omega) (by omega) q
        rw [← nth_eq, ← nth_eq] at h4
        unfold LtS at h3 h4 ⊢; omega
      · rw [show i = k - 1 by omega]; exact h3
    · obtain ⟨j, hj, rfl⟩ := List.getElem_of_mem hy
      rw [List.length_drop] at hj
      rw [List.getElem_drop, ← nth_eq]
      have h4 := List.pairwise_iff_getElem.1 h i (k + j) (by omega) (by omega) (by omega)
      rwa [← nth_eq, ← nth_eq] at h4
theorem put_eq {s : Sp} {l out : List Sp} {k : Nat} (he : out = srtS l) (hk : k ≤ out.length) (h1 : ¬ (0 < k ∧ LtS s (nth out (k - 1)))) (h2 : ∀ j, k ≤ j → j < out.length → LtS s (nth out j)) : out.take k ++ ([s] ++ out.drop k) = srtS (l ++ [s]) := by
  refine srt_eq (put_srt (he ▸ srt_srt l) hk (fun h hc => h1 ⟨h, hc⟩) h2) ?_
  have e1 : (out.take k ++ s :: out.drop k).Perm (s :: out) := by
    have := (List.perm_middle (a := s) (l₁ := out.take k) (l₂ := out.drop k))
    rwa [List.take_append_drop] at this
  refine e1.trans ?_
  rw [he]
  exact ((srt_perm l).cons s).trans (List.perm_append_comm (l₁ := [s]))

theorem own53 : Own Tryz.prog 53 := ⟨Tryz.f53, func53, by kernel_rfl, by kernel_rfl⟩
theorem own13 : Own Tryz.prog 13 := ⟨Tryz.f13, func13, by kernel_rfl, by kernel_rfl⟩
theorem own97 : Own Tryz.prog 97 := ⟨Tryz.f97, func97, by kernel_rfl, by kernel_rfl⟩
theorem own69 : Own Tryz.prog 69 := ⟨Tryz.f69, func69, by kernel_rfl, by kernel_rfl⟩
theorem own54 : Own Tryz.prog 54 := ⟨Tryz.f54, func54, by kernel_rfl, by kernel_rfl⟩
theorem own55 : Own Tryz.prog 55 := ⟨Tryz.f55, func55, by kernel_rfl, by kernel_rfl⟩
theorem own16 : Own Tryz.prog 16 := ⟨Tryz.f16, func16, by kernel_rfl, by kernel_rfl⟩
theorem rin_c (n a b : Int) (w0 : World) :
    CallsV Tryz.prog 53 [.int .i64 n, .int .i64 a, .int .i64 b] w0 (fun v w' => v = .bool (decide (a ≤ n ∧ n ≤ b)) ∧ Ext w0 w') := by
 have E0 := Upd.refl (fun _ => False) w0
 refine f_enter (N := 15) func53 rfl rfl rfl (c_seq fun K1 hK1 => (c_region (t_assign rfl rfl rfl (t_nil' (hK1 _ _ (c_seq fun K2 hK2 => (c_region (t_move rfl rfl rfl (t_move rfl rfl rfl (t_cmp rfl rfl rfl rfl rfl (t_move rfl rfl rfl (t_splitp 10 rfl (fun g10 => ?_) (fun g10 => ?_)))))))))))))
 ·
  refine t_move rfl rfl rfl (t_move rfl rfl rfl (t_cmp rfl rfl rfl rfl rfl (t_pick_t rfl rfl rfl rfl (t_assign rfl rfl rfl (t_nil' (hK2 _ _ (c_ret (f_ret1 (v := .bool (decide (n ≤ b))) results53 rfl ?_))))))))
  exact ⟨congrArg Value.bool (by rw [Bool.eq_iff_iff]; simp <;> omega), E0⟩
 refine t_skip rfl rfl rfl (t_skip rfl rfl rfl (t_skip rfl rfl rfl (t_pick_f rfl rfl rfl rfl (t_assign rfl rfl rfl (t_nil' (hK2 _ _ (c_ret (f_ret1 (v := .bool false) results53 rfl ?_))))))))
 exact ⟨congrArg Value.bool (by rw [Bool.eq_iff_iff]; simp <;> omega), E0⟩

theorem rRules_c (r : Rul) (w0 : World) :
    CallsV Tryz.prog 13 [.agg #[.int .i64 r.rest, .int .i64 r.span, .int .i64 r.work, .int .i64 r.week, .int .i64 r.ww]] w0 (fun v w' => v = .bool (okRul r) ∧ Ext w0 w') := by
 refine f_enter (N := 26) func13 rfl rfl rfl (c_seq fun K1 hK1 => (c_region (t_box (cs := [.int .i64 r.rest, .int .i64 r.span, .int .i64 r.work, .int .i64 r.week, .int .i64 r.ww]) rfl rfl rfl rfl (fun bk2 w3 ebk2 sbk2 B4 u5 => ?_))))
 have zu5 := u5.size
 refine t_assign rfl rfl rfl (t_nil' (hK1 _ _ (c_seq fun K7 hK7 => (c_region (t_field underlying23 rfl sizeOf3 (0) rfl rfl rfl rfl (t_load isAgg3 rfl rfl rfl (B4.get rfl) (t_call own53 rfl rfl rfl rfl (rin_c r.rest 1 20160 _) (fun v8 w9 r11 => ?_))))))))
 obtain ⟨rfl, u10⟩ := r11
 have zu10 := u10.size
 have E12 := ((Upd.refl (fun _ => False) w0).nx u5).nx u10
 refine t_move rfl rfl rfl (t_splitp 6 rfl (fun g6 => ?_) (fun g6 => ?_))
 ·
  refine t_field underlying23 rfl sizeOf3 (1) rfl rfl rfl rfl ?_
  have B13 := (B4.kx u10)
  refine t_load isAgg3 rfl rfl rfl (B13.get rfl) (t_call own53 rfl rfl rfl rfl (rin_c r.span 1 20160 _) (fun v14 w15 r17 => ?_))
  obtain ⟨rfl, u16⟩ := r17
  have zu16 := u16.size
  have E18 := E12.nx u16
  refine t_pick_t rfl rfl rfl rfl (t_move rfl rfl rfl (t_splitp 11 rfl (fun g11 => ?_) (fun g11 => ?_)))
  ·
   refine t_field underlying23 rfl sizeOf3 (2) rfl rfl rfl rfl ?_
   have B19 := (B13.kx u16)
   refine t_load isAgg3 rfl rfl rfl (B19.get rfl) (t_call own53 rfl rfl rfl rfl (rin_c r.work 1 20160 _) (fun v20 w21 r23 => ?_))
   obtain ⟨rfl, u22⟩ := r23
   have zu22 := u22.size
   have E24 := E18.nx u22
   refine t_pick_t rfl rfl rfl rfl (t_move rfl rfl rfl (t_splitp 16 rfl (fun g16 => ?_) (fun g16 => ?_)))
   ·
    refine t_field underlying23 rfl sizeOf3 (3) rfl rfl rfl rfl ?_
    have B25 := (B19.kx u22)
    refine t_load isAgg3 rfl rfl rfl (B25.get rfl) (t_call own53 rfl rfl rfl rfl (rin_c r.week 1 20160 _) (fun v26 w27 r29 => ?_))
    obtain ⟨rfl, u28⟩ := r29
    have zu28 := u28.size
    have E30 := E24.nx u28
    refine t_pick_t rfl rfl rfl rfl (t_move rfl rfl rfl (t_splitp 21 rfl (fun g21 => ?_) (fun g21 => ?_)))
    ·
     refine t_field underlying23 rfl sizeOf3 (4) rfl rfl rfl rfl ?_
     have B31 := (B25.kx u28)
     refine t_load isAgg3 rfl rfl rfl (B31.get rfl) (t_call own53 rfl rfl rfl rfl (rin_c r.ww 1 20160 _) (fun v32 w33 r35 => ?_))
     obtain ⟨rfl, u34⟩ := r35
     have zu34 := u34.size
     refine t_pick_t rfl rfl rfl rfl (t_assign rfl rfl rfl (t_nil' (hK7 _ _ (c_ret (f_ret1 (v := .bool (decide (1 ≤ r.ww ∧ r.ww ≤ 20160))) results13 rfl ?_)))))
     exact ⟨congrArg Value.bool (by rw [Bool.eq_iff_iff]; simp [okRul] <;> omega), (E30.nx u34)⟩
    refine t_skip rfl rfl rfl (t_skip rfl rfl rfl (t_skip rfl rfl rfl (t_pick_f rfl rfl rfl rfl (t_assign rfl rfl rfl (t_nil' (hK7 _ _ (c_ret (f_ret1 (v := .bool false) results13 rfl ?_))))))))
    exact ⟨congrArg Value.bool (by rw [Bool.eq_iff_iff]; simp [okRul] <;> omega), E30⟩
   refine t_skip rfl rfl rfl (t_skip rfl rfl rfl (t_skip rfl rfl rfl (t_pick_f rfl rfl rfl rfl (t_move rfl rfl rfl (t_skip rfl rfl rfl (t_skip rfl rfl rfl (t_skip rfl rfl rfl (t_pick_f rfl rfl rfl rfl (t_assign rfl rfl rfl (t_nil' (hK7 _ _ (c_ret (f_ret1 (v := .bool false) results13 rfl ?_)))))))))))))
   exact ⟨congrArg Value.bool (by rw [Bool.eq_iff_iff]; simp [okRul] <;> omega), E24⟩
  refine t_skip rfl rfl rfl (t_skip rfl rfl rfl (t_skip rfl rfl rfl (t_pick_f rfl rfl rfl rfl (t_move rfl rfl rfl (t_skip rfl rfl rfl (t_skip rfl rfl rfl (t_skip rfl rfl rfl (t_pick_f rfl rfl rfl rfl (t_move rfl rfl rfl (t_skip rfl rfl rfl (t_skip rfl rfl rfl (t_skip rfl rfl rfl (t_pick_f rfl rfl rfl rfl (t_assign rfl rfl rfl (t_nil' (hK7 _ _ (c_ret (f_ret1 (v := .bool false) results13 rfl ?_))))))))))))))))))
  exact ⟨congrArg Value.bool (by rw [Bool.eq_iff_iff]; simp [okRul] <;> omega), E18⟩
 refine t_skip rfl rfl rfl (t_skip rfl rfl rfl (t_skip rfl rfl rfl (t_pick_f rfl rfl rfl rfl (t_move rfl rfl rfl (t_skip rfl rfl rfl (t_skip rfl rfl rfl (t_skip rfl rfl rfl (t_pick_f rfl rfl rfl rfl (t_move rfl rfl rfl (t_skip rfl rfl rfl (t_skip rfl rfl rfl (t_skip rfl rfl rfl (t_pick_f rfl rfl rfl rfl (t_move rfl rfl rfl (t_skip rfl rfl rfl (t_skip rfl rfl rfl (t_skip rfl rfl rfl (t_pick_f rfl rfl rfl rfl (t_assign rfl rfl rfl (t_nil' (hK7 _ _ (c_ret (f_ret1 (v := .bool false) results13 rfl ?_)))))))))))))))))))))))
 exact ⟨congrArg Value.bool (by rw [Bool.eq_iff_iff]; simp [okRul] <;> omega), E12⟩

theorem rbounds_c (a b : Int) (w0 : World) :
    CallsV Tryz.prog 97 [.agg #[.int .i64 a, .int .i64 b]] w0 (fun v w' => v = .bool (decide (0 ≤ a ∧ a ≤ b ∧ b ≤ 20160)) ∧ Ext w0 w') := by
 refine f_enter (N := 18) func97 rfl rfl rfl (c_seq fun K1 hK1 => (c_region (t_box (cs := [.int .i64 a, .int .i64 b]) rfl rfl rfl rfl (fun bk2 w3 ebk2 sbk2 B4 u5 => ?_))))
 have zu5 := u5.size
 have E6 := (Upd.refl (fun _ => False) w0).nx u5
 refine t_assign rfl rfl rfl (t_nil' (hK1 _ _ (c_seq fun K7 hK7 => (c_region (t_field underlying35 rfl sizeOf3 (0) rfl rfl rfl rfl (t_load isAgg3 rfl rfl rfl (B4.get rfl) (t_cmp rfl rfl rfl rfl rfl (t_move rfl rfl rfl (t_splitp 6 rfl (fun g6 => ?_) (fun g6 => ?_))))))))))
 ·
  refine t_field underlying35 rfl sizeOf3 (0) rfl rfl rfl rfl (t_load isAgg3 rfl rfl rfl (B4.get rfl) (t_field underlying35 rfl sizeOf3 (1) rfl rfl rfl rfl (t_load isAgg3 rfl rfl rfl (B4.get rfl) (t_cmp rfl rfl rfl rfl rfl (t_pick_t rfl rfl rfl rfl (t_move rfl rfl rfl (t_splitp 13 rfl (fun g13 => ?_) (fun g13 => ?_))))))))
  ·
   refine t_field underlying35 rfl sizeOf3 (1) rfl rfl rfl rfl (t_load isAgg3 rfl rfl rfl (B4.get rfl) (t_cmp rfl rfl rfl rfl rfl (t_pick_t rfl rfl rfl rfl (t_assign rfl rfl rfl (t_nil' (hK7 _ _ (c_ret (f_ret1 (v := .bool (decide (b ≤ 20160))) results97 rfl ?_))))))))
   exact ⟨congrArg Value.bool (by rw [Bool.eq_iff_iff]; simp <;> omega), E6⟩
  refine t_skip rfl rfl rfl (t_skip rfl rfl rfl (t_skip rfl rfl rfl (t_pick_f rfl rfl rfl rfl (t_assign rfl rfl rfl (t_nil' (hK7 _ _ (c_ret (f_ret1 (v := .bool false) results97 rfl ?_))))))))
  exact ⟨congrArg Value.bool (by rw [Bool.eq_iff_iff]; simp <;> omega), E6⟩
 refine t_skip rfl rfl rfl (t_skip rfl rfl rfl (t_skip rfl rfl rfl (t_skip rfl rfl rfl (t_skip rfl rfl rfl (t_pick_f rfl rfl rfl rfl (t_move rfl rfl rfl (t_skip rfl rfl rfl (t_skip rfl rfl rfl (t_skip rfl rfl rfl (t_pick_f rfl rfl rfl rfl (t_assign rfl rfl rfl (t_nil' (hK7 _ _ (c_ret (f_ret1 (v := .bool false) results97 rfl ?_)))))))))))))))
 exact ⟨congrArg Value.bool (by rw [Bool.eq_iff_iff]; simp <;> omega), E6⟩

theorem rDuty_c (d : Dty) (w0 : World) :
    CallsV Tryz.prog 69 [.agg #[.int .i64 d.bl, .int .i64 d.bh, .int .i64 d.el, .int .i64 d.eh]] w0 (fun v w' => v = .bool (okDty d) ∧ Ext w0 w') := by
 refine f_enter (N := 20) func69 rfl rfl rfl (c_seq fun K1 hK1 => (c_region (t_box (cs := [.int .i64 d.bl, .int .i64 d.bh, .int .i64 d.el, .int .i64 d.eh]) rfl rfl rfl rfl (fun bk2 w3 ebk2 sbk2 B4 u5 => ?_))))
 have zu5 := u5.size
 refine t_assign rfl rfl rfl (t_nil' (hK1 _ _ (c_seq fun K7 hK7 => (c_region (t_field underlying37 rfl sizeOf35 (0) rfl rfl rfl rfl (t_loadN (vs := [.int .i64 d.bl, .int .i64 d.bh]) isAgg35 sizeOf35 rfl rfl rfl (B4.at.sub 0 2) rfl (t_call own97 rfl rfl rfl rfl (rbounds_c d.bl d.bh _) (fun v8 w9 r11 => ?_))))))))
 obtain ⟨rfl, u10⟩ := r11
 have zu10 := u10.size
 have E12 := ((Upd.refl (fun _ => False) w0).nx u5).nx u10
 refine t_move rfl rfl rfl (t_splitp 6 rfl (fun g6 => ?_) (fun g6 => ?_))
 ·
  refine t_field underlying37 rfl sizeOf35 (2) rfl rfl rfl rfl ?_
  have B13 := (B4.kx u10)
  refine t_loadN (vs := [.int .i64 d.el, .int .i64 d.eh]) isAgg35 sizeOf35 rfl rfl rfl (B13.at.sub 2 2) rfl (t_call own97 rfl rfl rfl rfl (rbounds_c d.el d.eh _) (fun v14 w15 r17 => ?_))
  obtain ⟨rfl, u16⟩ := r17
  have zu16 := u16.size
  have E18 := E12.nx u16
  refine t_pick_t rfl rfl rfl rfl (t_move rfl rfl rfl (t_splitp 11 rfl (fun g11 => ?_) (fun g11 => ?_)))
  ·
   refine t_field underlying37 rfl sizeOf35 (0) rfl rfl rfl rfl (t_field underlying35 rfl sizeOf3 (1) rfl rfl rfl rfl ?_)
   have B19 := (B13.kx u16)
   refine t_load isAgg3 rfl rfl rfl (B19.get rfl) (t_field underlying37 rfl sizeOf35 (2) rfl rfl rfl rfl (t_field underlying35 rfl sizeOf3 (2) rfl rfl rfl rfl (t_load isAgg3 rfl rfl rfl (B19.get rfl) (t_cmp rfl rfl rfl rfl rfl (t_pick_t rfl rfl rfl rfl (t_assign rfl rfl rfl (t_nil' (hK7 _ _ (c_ret (f_ret1 (v := .bool (decide (d.bh ≤ d.el))) results69 rfl ?_))))))))))
   exact ⟨congrArg Value.bool (by rw [Bool.eq_iff_iff]; simp [okDty] <;> omega), E18⟩
  refine t_skip rfl rfl rfl (t_skip rfl rfl rfl (t_skip rfl rfl rfl (t_skip rfl rfl rfl (t_skip rfl rfl rfl (t_skip rfl rfl rfl (t_skip rfl rfl rfl (t_pick_f rfl rfl rfl rfl (t_assign rfl rfl rfl (t_nil' (hK7 _ _ (c_ret (f_ret1 (v := .bool false) results69 rfl ?_))))))))))))
  exact ⟨congrArg Value.bool (by rw [Bool.eq_iff_iff]; simp [okDty] <;> omega), E18⟩
 refine t_skip rfl rfl rfl (t_skip rfl rfl rfl (t_skip rfl rfl rfl (t_pick_f rfl rfl rfl rfl (t_move rfl rfl rfl (t_skip rfl rfl rfl (t_skip rfl rfl rfl (t_skip rfl rfl rfl (t_skip rfl rfl rfl (t_skip rfl rfl rfl (t_skip rfl rfl rfl (t_skip rfl rfl rfl (t_pick_f rfl rfl rfl rfl (t_assign rfl rfl rfl (t_nil' (hK7 _ _ (c_ret (f_ret1 (v := .bool false) results69 rfl ?_)))))))))))))))))
 exact ⟨congrArg Value.bool (by rw [Bool.eq_iff_iff]; simp [okDty] <;> omega), E12⟩

theorem rDuties_c (l : List Dty) (al : Option Addr) (bl ol cl : Nat) (w0 : World) (hl : Sl encDty 4 w0 al bl ol l) (hll : l.length ≤ 1000000) :
    CallsV Tryz.prog 54 [.slice al l.length cl] w0 (fun v w' => v = .int .i64 (chkD l) ∧ Ext w0 w') := by
 have E0 := Upd.refl (fun _ => False) w0
 refine f_enter (N := 19) func54 rfl rfl rfl (c_seq fun K1 hK1 => (c_region (t_assign rfl rfl rfl (t_nil' (hK1 _ _ (c_seq fun K2 hK2 => (c_seq fun K3 hK3 => (c_region (t_move rfl rfl rfl (t_len underlying24 rfl rfl rfl rfl (t_cmp rfl rfl rfl rfl rfl (t_nil' (hK3 _ _ (c_condp rfl (fun g6 => ?_) (fun g6 => ?_)))))))))))))))
 ·
  refine c_seq fun K4 hK4 => (c_region (t_assign rfl rfl rfl (t_nil' (hK4 _ _ (c_ret (f_ret1 (v := .int .i64 5) results54 rfl ?_))))))
  exact ⟨congrArg (Value.int .i64) (by unfold chkD; rw [if_pos (by omega)]), E0⟩
 refine c_skip (hK2 _ _ (c_seq fun K5 hK5 => (c_seq fun K6 hK6 => (c_region (t_assign rfl rfl rfl (t_nil' (hK6 _ _ (c_block (c_loop (γ := Nat) (fun k => [(0, .slice al l.length cl), (3, .int .i64 (k : Int))]) (fun k w => Upd (fun _ => False) w0 w ∧ (k ≤ l.length) ∧ (((l.take k).any fun d => !okDty d) = false)) (fun k => l.length - k) 0 ⟨rfl, rfl, trivial⟩ ⟨Upd.refl _ _, (Nat.zero_le _), rfl⟩ ?_)))))))))
 intro k w8 hW K7 hK7
 obtain ⟨u9, I10, I11⟩ := hW
 have zu9 := u9.size
 have E12 := E0.nx u9
 have hk := I10; clear I10
 have hno := I11; clear I11
 refine c_seq fun K13 hK13 => (c_seq fun K14 hK14 => (c_region (t_move rfl rfl rfl (t_move rfl rfl rfl (t_len underlying24 rfl rfl rfl rfl (t_cmp rfl rfl rfl rfl rfl (t_nil' (hK14 _ _ (c_condp rfl (fun g10 => ?_) (fun g10 => ?_))))))))))
 ·
  refine c_skip (hK13 _ _ (c_seq fun K15 hK15 => (c_block (c_seq fun K16 hK16 => (c_region (t_move rfl rfl rfl (t_move rfl rfl rfl ?_)))))))
  have i17 : k < l.length := (by omega)
  refine t_index (j := k) underlying24 sizeOf37 rfl rfl rfl rfl ((hl.keep E12 (fun _ h => h)).addr (by omega)) rfl i17 (t_loadN (vs := [.int .i64 ((nth l k).bl), .int .i64 ((nth l k).bh), .int .i64 ((nth l k).el), .int .i64 ((nth l k).eh)]) isAgg37 sizeOf37 rfl rfl rfl (((hl.keep E12 (fun _ h => h)).at_ k (by omega)).sub 0 4) rfl (t_call own69 rfl rfl rfl rfl (rDuty_c (nth l k) _) (fun v18 w19 r21 => ?_)))
  obtain ⟨rfl, u20⟩ := r21
  have zu20 := u20.size
  refine t_not rfl rfl rfl (t_nil' (hK16 _ _ (c_cond rfl (fun g18 => ?_) (fun g18 => ?_))))
  ·
   refine c_seq fun K23 hK23 => (c_region (t_assign rfl rfl rfl (t_nil' (hK23 _ _ (c_ret (f_ret1 (v := .int .i64 2) results54 rfl ?_))))))
   exact ⟨congrArg (Value.int .i64) (by unfold chkD; rw [if_neg (by omega), if_pos (List.any_eq_true.2 ⟨_, nth_mem (show k < l.length by omega), g18⟩)]), (E12.nx u20)⟩
  refine c_skip (hK15 _ _ (c_region (t_move rfl rfl rfl (t_ari rfl rfl rfl rfl rfl (by omega) (t_assign rfl rfl rfl (t_nil' ?_))))))
  exact hK7 (k + 1) _ _ (by omega) ⟨rfl, rfl, trivial⟩ ⟨(u9.nx u20), (by omega), (any_snoc (p := fun d => !okDty d) (by omega) hno g18)⟩
 refine c_exit (hK5 _ _ (c_seq fun K24 hK24 => (c_region (t_assign rfl rfl rfl (t_nil' (hK24 _ _ (c_ret (f_ret1 (v := .int .i64 0) results54 rfl ?_))))))))
 exact ⟨congrArg (Value.int .i64) (by unfold chkD; rw [if_neg (by omega), if_neg (by rw [List.take_of_length_le (by omega)] at hno; simp [hno])]), E12⟩

theorem rSorted_c (l : List Sp) (al : Option Addr) (bl ol cl : Nat) (w0 : World) (hl : Sl encSp 2 w0 al bl ol l) (hll : l.length ≤ 100000) (hpos : 0 < w0.heap.size) :
    CallsV Tryz.prog 55 [.slice al l.length cl] w0 (fun v w' => (∃ ao g cp, v = .slice ao (List.length (srtS l)) cp ∧ Acc encSp 2 114 w0.heap.size w' ao g cp (srtS l)) ∧ Ext w0 w') := by
 refine f_enter (N := 75) func55 rfl rfl rfl (c_seq fun K1 hK1 => (c_region (t_assign rfl rfl rfl (t_nil' (hK1 _ _ (c_seq fun K2 hK2 => (c_region (t_bslice (ps := []) (cs := []) (e := 114) rfl rfl ⟨rfl, rfl⟩ (fun w => by kernel_rfl) (fun bk3 w4 ebk3 sbk3 B5 u6 => ?_)))))))))
 have zu6 := u6.size
 refine t_assign rfl rfl rfl (t_nil' (hK2 _ _ (c_seq fun K8 hK8 => (c_seq fun K9 hK9 => (c_region (t_assign rfl rfl rfl (t_nil' (hK9 _ _ (c_block (c_loop (γ := Nat × Option Addr × Nat × Nat × List Sp) (fun gg => [(0, .slice al l.length cl), (3, .slice gg.2.1 gg.2.2.2.2.length gg.2.2.2.1), (4, .int .i64 (gg.1 : Int))]) (fun gg w => Upd (fun i => bk3 ≤ i) w4 w ∧ (gg.1 ≤ l.length) ∧ (Acc encSp 2 114 bk3 w gg.2.1 gg.2.2.1 gg.2.2.2.1 gg.2.2.2.2) ∧ (gg.2.2.2.2 = srtS (l.take gg.1))) (fun gg => l.length - gg.1) (0, some ⟨bk3, 0, none⟩, bk3, 0, []) ⟨rfl, rfl, rfl, trivial⟩ ⟨Upd.refl _ _, (Nat.zero_le _), (Acc.ofRaw (cs := []) B5 (Nat.le_refl _) (Nat.le_refl _) (Nat.zero_le _) (by rfl) (by rfl)), rfl⟩ ?_))))))))))
 intro gg w11 hW K10 hK10
 obtain ⟨p, ao, go, co, out⟩ := gg
 change WC _ _ _ _ _ _ [(0, .slice al l.length cl), (3, .slice ao out.length co), (4, .int .i64 (p : Int))] _
 change Upd (fun i => bk3 ≤ i) w4 w11 ∧ (p ≤ l.length) ∧ (Acc encSp 2 114 bk3 w11 ao go co out) ∧ (out = srtS (l.take p)) at hW
 obtain ⟨u12, I13, I14, I15⟩ := hW
 have zu12 := u12.size
 have E16 := ((Upd.refl (fun _ => False) w0).nx u6).next u12 (fun i hi (h : bk3 ≤ i) => show False by first | omega | assumption)
 have hp := I13; clear I13
 have hout := I14; clear I14
 have hoe := I15; clear I15
 have lt_go := hout.lt
 have hol : out.length = p := by rw [hoe, srt_len, List.length_take]; omega
 have hco := hout.cap_le
 refine c_seq fun K17 hK17 => (c_seq fun K18 hK18 => (c_region (t_move rfl rfl rfl (t_move rfl rfl rfl (t_len underlying41 rfl rfl rfl rfl (t_cmp rfl rfl rfl rfl rfl (t_nil' (hK18 _ _ (c_condp rfl (fun g10 => ?_) (fun g10 => ?_))))))))))
 ·
  have hbl := hl.lt (show 0 < l.length by omega)
  refine c_skip (hK17 _ _ (c_seq fun K19 hK19 => (c_block (c_seq fun K20 hK20 => (c_region (t_move rfl rfl rfl (t_len underlying41 rfl rfl rfl rfl (t_assign rfl rfl rfl (t_nil' (hK20 _ _ (c_seq fun K21 hK21 => (c_block (c_loop (γ := Nat) (fun k => [(0, .slice al l.length cl), (3, .slice ao out.length co), (4, .int .i64 (p : Int)), (5, .int .i64 (k : Int))]) (fun k w => Upd (fun _ => False) w11 w ∧ (k ≤ out.length) ∧ (∀ j, k ≤ j → j < out.length → LtS (nth l p) (nth out j))) (fun k => k) out.length ⟨rfl, rfl, rfl, rfl, trivial⟩ ⟨Upd.refl _ _, (Nat.le_refl _), (fun j h1 h2 => absurd h2 (by omega))⟩ ?_)))))))))))))
  intro k w23 hW K22 hK22
  obtain ⟨u24, I25, I26⟩ := hW
  have zu24 := u24.size
  have E27 := E16.nx u24
  have hk := I25; clear I25
  have hab := I26; clear I26
  refine c_seq fun K28 hK28 => (c_cut (γ := Bool) (fun q => [(0, .slice al l.length cl), (3, .slice ao out.length co), (4, .int .i64 (p : Int)), (5, .int .i64 (k : Int)), (58, .bool q)]) (fun q w => Upd (fun _ => False) w23 w ∧ (q = true ↔ (0 < k ∧ LtS (nth l p) (nth out (k - 1))))) (fun K30 hK30 => ?_) ?_)
  ·
   refine c_drawnM follows (fun _ => False) (.look 0 (.look 1 (.look 2 (.look 3 (.look 4 (.look 5 (.look 6 (.look 7 (.look 8 (.look 9 (.look 10 (.look 11 (.look 12 (.look 13 (.look 14 (.look 15 (.look 16 (.look 17 (.look 18 (.look 19 (.look 20 (.look 21 (.look 22 (.look 23 (.look 24 (.look 25 (.look 26 (.look 27 (.look 28 (.look 29 (.look 30 (.look 31 (.look 32 (.look 33 (.look 34 (.look 35 (.look 36 (.look 37 (.look 38 (.look 39 (.look 40 (.look 41 (.look 42 (.look 43 .done)))))))))))))))))))))))))))))))))))))))))))) (by kernel_rfl) fun w33 u34 => ?_
   have zu34 := u34.size
   have E35 := E27.nx u34
   refine y_move rfl rfl rfl (y_cmp rfl rfl rfl rfl rfl (y_move rfl rfl rfl (y_splitp 17 rfl (fun g17 => ?_) (fun g17 => ?_))))
   ·
    refine y_move rfl rfl rfl (y_move rfl rfl rfl ?_)
    have i36 : p < l.length := (by omega)
    refine y_index (j := p) underlying41 sizeOf114 rfl rfl rfl rfl ((hl.keep E35 (fun _ h => h)).addr (by omega)) rfl i36 (y_field underlying114 rfl sizeOf3 (ol + p * 2 + 0) rfl rfl rfl rfl (y_load isAgg3 rfl rfl rfl (((hl.keep E35 (fun _ h => h)).at_ p (by omega)) 0 _ rfl) (fun h => h) (y_move rfl rfl rfl (y_move rfl rfl rfl (y_ari rfl rfl rfl rfl rfl (by omega) ?_)))))
    have D37 := ((hout.kE u24).kE u34)
    have i38 : (k - 1) < out.length := (by omega)
    refine y_index (j := (k - 1)) underlying41 sizeOf114 rfl rfl rfl rfl ((D37.sl (fun _ => rfl)).addr (by omega)) (by omega) i38 (y_field underlying114 rfl sizeOf3 (0 + (k - 1) * 2 + 0) rfl rfl rfl rfl ?_)
    have D39 := ((hout.kE u24).kE u34)
    refine y_load isAgg3 rfl rfl rfl (((D39.sl (fun _ => rfl)).at_ (k - 1) (by omega)) 0 _ rfl) (fun h => h) (y_cmp rfl rfl rfl rfl rfl (y_move rfl rfl rfl (y_splitp 30 rfl (fun g30 => ?_) (fun g30 => ?_))))
    ·
     refine y_skip rfl rfl rfl (y_skip rfl rfl rfl (y_skip rfl rfl rfl (y_skip rfl rfl rfl (y_skip rfl rfl rfl (y_skip rfl rfl rfl (y_skip rfl rfl rfl (y_skip rfl rfl rfl (y_skip rfl rfl rfl (y_skip rfl rfl rfl (y_skip rfl rfl rfl (y_skip rfl rfl rfl (y_skip rfl rfl rfl (y_skip rfl rfl rfl (y_skip rfl rfl rfl (y_skip rfl rfl rfl (y_skip rfl rfl rfl (y_skip rfl rfl rfl (y_skip rfl rfl rfl (y_skip rfl rfl rfl (y_skip rfl rfl rfl (y_skip rfl rfl rfl (y_skip rfl rfl rfl (y_skip rfl rfl rfl ?_)))))))))))))))))))))))
     refine y_skip rfl rfl rfl (y_skip rfl rfl rfl (y_pick_t rfl rfl rfl rfl (y_pick_t rfl rfl rfl rfl (s_nil ?_))))
     exact hK30 true _ _ ⟨rfl, rfl, rfl, rfl, rfl, trivial⟩ ⟨((Upd.refl _ _).nx u34), (by unfold LtS; exact ⟨fun _ => by omega, fun _ => rfl⟩)⟩
    refine y_move rfl rfl rfl (y_move rfl rfl rfl ?_)
    have i40 : p < l.length := (by omega)
    refine y_index (j := p) underlying41 sizeOf114 rfl rfl rfl rfl ((hl.keep E35 (fun _ h => h)).addr (by omega)) rfl i40 (y_field underlying114 rfl sizeOf3 (ol + p * 2 + 0) rfl rfl rfl rfl (y_load isAgg3 rfl rfl rfl (((hl.keep E35 (fun _ h => h)).at_ p (by omega)) 0 _ rfl) (fun h => h) (y_move rfl rfl rfl (y_move rfl rfl rfl (y_ari rfl rfl rfl rfl rfl (by omega) ?_)))))
    have i41 : (k - 1) < out.length := (by omega)
    refine y_index (j := (k - 1)) underlying41 sizeOf114 rfl rfl rfl rfl ((D37.sl (fun _ => rfl)).addr (by omega)) (by omega) i41 (y_field underlying114 rfl sizeOf3 (0 + (k - 1) * 2 + 0) rfl rfl rfl rfl (y_load isAgg3 rfl rfl rfl (((D39.sl (fun _ => rfl)).at_ (k - 1) (by omega)) 0 _ rfl) (fun h => h) (y_cmp rfl rfl rfl rfl rfl (y_move rfl rfl rfl (y_splitp 43 rfl (fun g43 => ?_) (fun g43 => ?_))))))
    ·
     refine y_move rfl rfl rfl (y_move rfl rfl rfl ?_)
     have i42 : p < l.length := (by omega)
     refine y_index (j := p) underlying41 sizeOf114 rfl rfl rfl rfl ((hl.keep E35 (fun _ h => h)).addr (by omega)) rfl i42 (y_field underlying114 rfl sizeOf3 (ol + p * 2 + 1) rfl rfl rfl rfl (y_load isAgg3 rfl rfl rfl (((hl.keep E35 (fun _ h => h)).at_ p (by omega)) 1 _ rfl) (fun h => h) (y_move rfl rfl rfl (y_move rfl rfl rfl (y_ari rfl rfl rfl rfl rfl (by omega) ?_)))))
     have i43 : (k - 1) < out.length := (by omega)
     refine y_index (j := (k - 1)) underlying41 sizeOf114 rfl rfl rfl rfl ((D37.sl (fun _ => rfl)).addr (by omega)) (by omega) i43 (y_field underlying114 rfl sizeOf3 (0 + (k - 1) * 2 + 1) rfl rfl rfl rfl (y_load isAgg3 rfl rfl rfl (((D39.sl (fun _ => rfl)).at_ (k - 1) (by omega)) 1 _ rfl) (fun h => h) (y_cmp rfl rfl rfl rfl rfl (y_pick_t rfl rfl rfl rfl (y_pick_f rfl rfl rfl rfl (y_pick_t rfl rfl rfl rfl (s_nil ?_)))))))
     exact hK30 (decide ((nth l p).e < (nth out (k - 1)).e)) _ _ ⟨rfl, rfl, rfl, rfl, rfl, trivial⟩ ⟨((Upd.refl _ _).nx u34), (by unfold LtS; rw [decide_eq_true_eq]; constructor <;> intro h <;> omega)⟩
    refine y_skip rfl rfl rfl (y_skip rfl rfl rfl (y_skip rfl rfl rfl (y_skip rfl rfl rfl (y_skip rfl rfl rfl (y_skip rfl rfl rfl (y_skip rfl rfl rfl (y_skip rfl rfl rfl (y_skip rfl rfl rfl (y_skip rfl rfl rfl (y_skip rfl rfl rfl (y_skip rfl rfl rfl (y_pick_f rfl rfl rfl rfl (y_pick_f rfl rfl rfl rfl (y_pick_t rfl rfl rfl rfl (s_nil ?_)))))))))))))))
    exact hK30 false _ _ ⟨rfl, rfl, rfl, rfl, rfl, trivial⟩ ⟨((Upd.refl _ _).nx u34), (by unfold LtS; exact ⟨fun h => (by cases h), fun h => absurd h (by omega)⟩)⟩
   refine y_skip rfl rfl rfl (y_skip rfl rfl rfl (y_skip rfl rfl rfl (y_skip rfl rfl rfl (y_skip rfl rfl rfl (y_skip rfl rfl rfl (y_skip rfl rfl rfl (y_skip rfl rfl rfl (y_skip rfl rfl rfl (y_skip rfl rfl rfl (y_skip rfl rfl rfl (y_skip rfl rfl rfl (y_skip rfl rfl rfl (y_skip rfl rfl rfl (y_skip rfl rfl rfl (y_skip rfl rfl rfl (y_skip rfl rfl rfl (y_skip rfl rfl rfl (y_skip rfl rfl rfl (y_skip rfl rfl rfl (y_skip rfl rfl rfl (y_skip rfl rfl rfl (y_skip rfl rfl rfl (y_skip rfl rfl rfl ?_)))))))))))))))))))))))
   refine y_skip rfl rfl rfl (y_skip rfl rfl rfl (y_skip rfl rfl rfl (y_skip rfl rfl rfl (y_skip rfl rfl rfl (y_skip rfl rfl rfl (y_skip rfl rfl rfl (y_skip rfl rfl rfl (y_skip rfl rfl rfl (y_skip rfl rfl rfl (y_skip rfl rfl rfl (y_skip rfl rfl rfl (y_skip rfl rfl rfl (y_skip rfl rfl rfl (y_skip rfl rfl rfl (y_skip rfl rfl rfl (y_pick_f rfl rfl rfl rfl (s_nil ?_)))))))))))))))))
   exact hK30 false _ _ ⟨rfl, rfl, rfl, rfl, rfl, trivial⟩ ⟨((Upd.refl _ _).nx u34), (by unfold LtS; exact ⟨fun h => (by cases h), fun h => absurd h (by omega)⟩)⟩
  intro q w31 hW
  obtain ⟨u32, I44⟩ := hW
  have zu32 := u32.size
  have hq := I44; clear I44
  refine c_cond rfl (fun g58 => ?_) (fun g58 => ?_)
  ·
   refine c_skip (hK28 _ _ (c_block (c_region (t_move rfl rfl rfl (t_ari rfl rfl rfl rfl rfl (by omega) (t_assign rfl rfl rfl (t_nil' ?_)))))))
   exact hK22 (k - 1) _ _ (by have := (hq.1 g58).1; omega) ⟨rfl, rfl, rfl, (congrArg (fun z => some (Value.int .i64 z)) (by have := (hq.1 g58).1; omega)), trivial⟩ ⟨(u24.nx u32), (by omega), (fun j h1 h2 => by
     by_cases h : j = k - 1
     · rw [h]; exact (hq.1 g58).2
     · exact hab j (by omega) h2)⟩
  have hex : ¬ (0 < k ∧ LtS (nth l p) (nth out (k - 1))) := fun h => by rw [hq.2 h] at g58; cases g58
  refine c_exit (hK21 _ _ (c_drawnM follows (fun i => (i = go ∧ bk3 ≤ i)) (.look 0 (.look 1 (.look 2 (.look 3 (.look 4 (.look 5 (.look 6 (.look 8 (.look 9 (.look 10 (.act 7 (.act 11 (.act 12 (.look 13 .done) .stop) .stop) .stop))))))))))) (by kernel_rfl) fun w46 u47 => ?_))
  have zu47 := u47.size
  have E48 := (E27.nx u32).nx u47
  refine y_move rfl rfl rfl (y_move rfl rfl rfl (y_sliceTo (k) underlying41 sizeOf114 rfl rfl rfl rfl rfl (by omega) (y_same 63 (v := .slice ao ((out.take k).length) co) rfl (by rw [hout.subTo0, List.length_take, Nat.min_eq_left (by omega)]) (y_move rfl rfl rfl (y_move rfl rfl rfl ?_)))))
  have i49 : p < l.length := (by omega)
  refine y_index (j := p) underlying41 sizeOf114 rfl rfl rfl rfl ((hl.keep E48 (fun _ h => h)).addr (by omega)) rfl i49 (y_loadN (vs := [.int .i64 ((nth l p).b), .int .i64 ((nth l p).e)]) isAgg114 sizeOf114 rfl rfl rfl (((hl.keep E48 (fun _ h => h)).at_ p (by omega)).sub 0 2) rfl (by show ¬ ((bl = go ∧ bk3 ≤ bl)); first | omega | assumption) (y_move rfl rfl rfl (y_move rfl rfl rfl (y_sliceFrom (k) underlying41 sizeOf114 rfl rfl rfl rfl rfl (by omega) (by omega) (y_same 71 (v := .slice (subAddr ao co k 2) ((out.drop k).length) (co - k)) rfl (by rw [List.length_drop]) (s_do (t_bslice (ps := [(0, .agg #[.int .i64 ((nth l p).b), .int .i64 ((nth l p).e)])]) (cs := [.int .i64 ((nth l p).b), .int .i64 ((nth l p).e)]) (e := 114) rfl rfl ⟨rfl, rfl⟩ (fun w => by kernel_rfl) (fun bk50 w51 ebk50 sbk50 B52 u53 => ?_))))))))
  have zu53 := u53.size
  refine s_next ((Upd.refl _ _).nx u53) (s_do ?_)
  have D55 := ((((hout.kE u24).kE u32).kE u47).kE u53)
  refine t_appLit (enc := encSp) (z := .agg #[.int .i64 0, .int .i64 0]) (bytes := 16) (k := 2) (xs := [(nth l p)]) (ys := (out.drop k)) underlying41 (by kernel_rfl) rfl (by decide) (fun _ => rfl) (by intro x; simp [encSp, Value.oneCell']) rfl rfl rfl rfl B52 (Sl.from_ (D55.sl (fun _ => rfl)) co k (by omega)) (by first | decide | simp) (by rw [List.length_drop]; omega) (by decide) (fun ao56 gb57 cp58 w59 A60 u61 gegb57 => ?_)
  have zu61 := u61.size
  have lt_gb57 := A60.lt
  refine s_next ((Upd.refl _ _).next u61 (fun i hi (h : (i = bk50 ∧ bk50 ≤ i)) => show w46.heap.size ≤ i ∨ ((i = go ∧ bk3 ≤ i)) by first | omega | exact .inr h)) (s_do ?_)
  have D63 := (D55.keep u61 (fun hb => show ¬ ((go = bk50 ∧ bk50 ≤ go)) by first | omega | assumption))
  refine t_appendAll (enc := encSp) (z := .agg #[.int .i64 0, .int .i64 0]) (bytes := 16) (k := 2) (base := bk3) (xs := (out.take k)) (ys := ([(nth l p)] ++ (out.drop k))) underlying41 (by kernel_rfl) rfl (by decide) (fun _ => rfl) (by intro x; simp [encSp, Value.oneCell']) rfl rfl rfl rfl (Acc.takeN (enc := encSp) (k := 2) (fun _ => rfl) D63 k) (A60.sl (fun _ => rfl)) (by omega) (by rw [List.length_take]; omega) (by rw [List.length_append, List.length_drop, List.length_singleton]; omega) (by decide) (fun ao64 gb65 cp66 w67 A68 u69 gegb65 lngb65 => ?_)
  have zu69 := u69.size
  have lt_gb65 := A68.lt
  refine s_next ((Upd.refl _ _).next u69 (fun i hi (h : (i = go ∧ bk3 ≤ i)) => show w46.heap.size ≤ i ∨ ((i = go ∧ bk3 ≤ i)) by first | omega | exact .inr h)) (y_assign rfl rfl rfl (s_nil (hK19 _ _ (c_region (t_move rfl rfl rfl (t_ari rfl rfl rfl rfl rfl (by omega) (t_assign rfl rfl rfl (t_nil' ?_))))))))
  exact hK10 (p + 1, ao64, gb65, cp66, ((out.take k) ++ ([(nth l p)] ++ (out.drop k)))) _ _ (by show l.length - (p + 1) < l.length - p; omega) ⟨rfl, rfl, rfl, trivial⟩ ⟨((((((u12.nx u24).nx u32).nx u47).nx u53).next u61 (fun i hi (h : (i = bk50 ∧ bk50 ≤ i)) => show bk3 ≤ i by first | omega | assumption)).next u69 (fun i hi (h : (i = go ∧ bk3 ≤ i)) => show bk3 ≤ i by first | omega | assumption)), (by omega), A68, (by rw [take_nth (by omega)]; exact put_eq hoe (by omega) hex hab)⟩
 refine c_exit (hK8 _ _ (c_seq fun K71 hK71 => (c_region (t_move rfl rfl rfl (t_assign rfl rfl rfl (t_nil' (hK71 _ _ (c_ret (f_ret1 (v := .slice ao out.length co) results55 rfl ?_)))))))))
 have hpe : out = srtS l := by rw [hoe, List.take_of_length_le (by omega)]
 subst hpe
 obtain ⟨g9, ha9⟩ := Acc.lower (base' := w0.heap.size) hout (by omega) hpos
 exact ⟨⟨ao, g9, co, rfl, ha9⟩, E16⟩

theorem rLongest_c (l : List Dty) (al : Option Addr) (bl ol cl : Nat) (w0 : World) (hl : Sl encDty 4 w0 al bl ol l) (hll : l.length ≤ 100000) (hpos : 0 < w0.heap.size) :
    CallsV Tryz.prog 16 [.slice al l.length cl] w0 (fun v w' => (∃ ao g cp, v = .slice ao (List.length (srtS (l.map lngS))) cp ∧ Acc encSp 2 114 w0.heap.size w' ao g cp (srtS (l.map lngS))) ∧ Ext w0 w') := by
 refine f_enter (N := 30) func16 rfl rfl rfl (c_seq fun K1 hK1 => (c_region (t_assign rfl rfl rfl (t_nil' (hK1 _ _ (c_seq fun K2 hK2 => (c_region (t_bslice (ps := []) (cs := []) (e := 114) rfl rfl ⟨rfl, rfl⟩ (fun w => by kernel_rfl) (fun bk3 w4 ebk3 sbk3 B5 u6 => ?_)))))))))
 have zu6 := u6.size
 refine t_assign rfl rfl rfl (t_nil' (hK2 _ _ (c_seq fun K8 hK8 => (c_seq fun K9 hK9 => (c_region (t_assign rfl rfl rfl (t_nil' (hK9 _ _ (c_block (c_loop (γ := Nat × Option Addr × Nat × Nat × List Sp) (fun gg => [(0, .slice al l.length cl), (3, .slice gg.2.1 gg.2.2.2.2.length gg.2.2.2.1), (4, .int .i64 (gg.1 : Int))]) (fun gg w => Upd (fun i => bk3 ≤ i) w4 w ∧ (gg.1 ≤ l.length) ∧ (Acc encSp 2 114 bk3 w gg.2.1 gg.2.2.1 gg.2.2.2.1 gg.2.2.2.2) ∧ (gg.2.2.2.2 = (l.take gg.1).map lngS)) (fun gg => l.length - gg.1) (0, some ⟨bk3, 0, none⟩, bk3, 0, []) ⟨rfl, rfl, rfl, trivial⟩ ⟨Upd.refl _ _, (Nat.zero_le _), (Acc.ofRaw (cs := []) B5 (Nat.le_refl _) (Nat.le_refl _) (Nat.zero_le _) (by rfl) (by rfl)), rfl⟩ ?_))))))))))
 intro gg w11 hW K10 hK10
 obtain ⟨k, ao, go, co, out⟩ := gg
 change WC _ _ _ _ _ _ [(0, .slice al l.length cl), (3, .slice ao out.length co), (4, .int .i64 (k : Int))] _
 change Upd (fun i => bk3 ≤ i) w4 w11 ∧ (k ≤ l.length) ∧ (Acc encSp 2 114 bk3 w11 ao go co out) ∧ (out = (l.take k).map lngS) at hW
 obtain ⟨u12, I13, I14, I15⟩ := hW
 have zu12 := u12.size
 have E16 := ((Upd.refl (fun _ => False) w0).nx u6).next u12 (fun i hi (h : bk3 ≤ i) => show False by first | omega | assumption)
 have hk := I13; clear I13
 have hout := I14; clear I14
 have hoe := I15; clear I15
 have lt_go := hout.lt
 have hol : out.length = k := by rw [hoe, List.length_map, List.length_take]; omega
 refine c_seq fun K17 hK17 => (c_seq fun K18 hK18 => (c_region (t_move rfl rfl rfl (t_move rfl rfl rfl (t_len underlying24 rfl rfl rfl rfl (t_cmp rfl rfl rfl rfl rfl (t_nil' (hK18 _ _ (c_condp rfl (fun g9 => ?_) (fun g9 => ?_))))))))))
 ·
  have hbl := hl.lt (show 0 < l.length by omega)
  refine c_skip (hK17 _ _ (c_seq fun K19 hK19 => (c_block (c_drawnM follows (fun i => (i = go ∧ bk3 ≤ i)) (.look 0 (.look 1 (.look 2 (.look 3 (.look 4 (.look 5 (.look 6 (.look 7 (.look 8 (.look 9 (.look 10 (.look 11 (.look 12 (.look 13 (.act 14 (.act 15 (.look 16 .done) .stop) .stop))))))))))))))) (by kernel_rfl) fun w20 u21 => ?_))))
  have zu21 := u21.size
  have E22 := E16.nx u21
  refine y_move rfl rfl rfl (y_move rfl rfl rfl (y_move rfl rfl rfl ?_))
  have i23 : k < l.length := (by omega)
  refine y_index (j := k) underlying24 sizeOf37 rfl rfl rfl rfl ((hl.keep E22 (fun _ h => h)).addr (by omega)) rfl i23 (y_field underlying37 rfl sizeOf35 (ol + k * 4 + 0) rfl rfl rfl rfl (y_field underlying35 rfl sizeOf3 (ol + k * 4 + 0 + 0) rfl rfl rfl rfl (y_load isAgg3 rfl rfl rfl (((hl.keep E22 (fun _ h => h)).at_ k (by omega)) 0 _ rfl) (by show ¬ ((bl = go ∧ bk3 ≤ bl)); first | omega | assumption) (y_move rfl rfl rfl (y_move rfl rfl rfl ?_)))))
  have i24 : k < l.length := (by omega)
  refine y_index (j := k) underlying24 sizeOf37 rfl rfl rfl rfl ((hl.keep E22 (fun _ h => h)).addr (by omega)) rfl i24 (y_field underlying37 rfl sizeOf35 (ol + k * 4 + 2) rfl rfl rfl rfl (y_field underlying35 rfl sizeOf3 (ol + k * 4 + 2 + 1) rfl rfl rfl rfl (y_load isAgg3 rfl rfl rfl (((hl.keep E22 (fun _ h => h)).at_ k (by omega)) 3 _ rfl) (by show ¬ ((bl = go ∧ bk3 ≤ bl)); first | omega | assumption) (y_build (ps := [(0, .int .i64 ((nth l k).bl)), (1, .int .i64 ((nth l k).eh))]) (v := .agg #[.int .i64 ((nth l k).bl), .int .i64 ((nth l k).eh)]) rfl rfl ⟨rfl, rfl⟩ (fun w => by kernel_rfl) (s_do (t_bslice (ps := [(0, .agg #[.int .i64 ((nth l k).bl), .int .i64 ((nth l k).eh)])]) (cs := [.int .i64 ((nth l k).bl), .int .i64 ((nth l k).eh)]) (e := 114) rfl rfl ⟨rfl, rfl⟩ (fun w => by kernel_rfl) (fun bk25 w26 ebk25 sbk25 B27 u28 => ?_)))))))
  have zu28 := u28.size
  refine s_next ((Upd.refl _ _).nx u28) (s_do ?_)
  have D30 := ((hout.kE u21).kE u28)
  refine t_append (z := .agg #[.int .i64 0, .int .i64 0]) (bytes := 16) (k := 2) (base := bk3) (lngS (nth l k)) underlying41 (by kernel_rfl) rfl (by decide) (fun _ => rfl) (by intro x; simp [encSp, Value.oneCell']) rfl rfl rfl rfl D30 B27 (by omega) (by omega) (by decide) (fun ao31 gb32 cp33 w34 A35 u36 gegb32 lngb32 => ?_)
  have zu36 := u36.size
  have lt_gb32 := A35.lt
  refine s_next ((Upd.refl _ _).next u36 (fun i hi (h : (i = go ∧ bk3 ≤ i)) => show w20.heap.size ≤ i ∨ ((i = go ∧ bk3 ≤ i)) by first | omega | exact .inr h)) (y_assign rfl rfl rfl (s_nil (hK19 _ _ (c_region (t_move rfl rfl rfl (t_ari rfl rfl rfl rfl rfl (by omega) (t_assign rfl rfl rfl (t_nil' ?_))))))))
  exact hK10 (k + 1, ao31, gb32, cp33, (out ++ [(lngS (nth l k))])) _ _ (by show l.length - (k + 1) < l.length - k; omega) ⟨rfl, rfl, rfl, trivial⟩ ⟨(((u12.nx u21).nx u28).next u36 (fun i hi (h : (i = go ∧ bk3 ≤ i)) => show bk3 ≤ i by first | omega | assumption)), (by omega), A35, (by rw [hoe, take_nth (by omega), List.map_append]; rfl)⟩
 refine c_exit (hK8 _ _ (c_seq fun K38 hK38 => (c_region (t_move rfl rfl rfl (t_call own55 rfl rfl rfl rfl (rSorted_c out ao go 0 co _ (hout.sl (fun _ => rfl)) (by omega) (by omega)) (fun v40 w41 r43 => ?_))))))
 obtain ⟨⟨aoS39, gS39, cS39, rfl, haS39⟩, u42⟩ := r43
 have zu42 := u42.size
 have lt_gS39 := haS39.lt
 refine t_assign rfl rfl rfl (t_nil' (hK38 _ _ (c_ret (f_ret1 (v := .slice aoS39 ((srtS out).length) cS39) results16 rfl ?_))))
 have hpe : out = l.map lngS := by rw [hoe, List.take_of_length_le (by omega)]
 subst hpe
 obtain ⟨g9, ha9⟩ := Acc.lower (base' := w0.heap.size) haS39 (by omega) hpos
 exact ⟨⟨aoS39, g9, cS39, rfl, ha9⟩, (E16.nx u42)⟩

end Go.Proofs.YtagmodjadmecdaaGreat
