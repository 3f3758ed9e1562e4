/-
  Part 18 of the proof: contracts and plain laws. Conditions: none.
-/
import Derived.Test.YtagmodjadmecdaaGreatJK17
namespace Go.Proofs.YtagmodjadmecdaaGreat
open Go Go.RowKit Tryz

theorem plan_err {r : Rul} {ss : List Slr} {xs : List Leg} {p : List (List Int)} {a e : Int} (h : PlanR r ss xs p a e) (h0 : openE r ss xs ≠ 0) : e = openE r ss xs ∧ a = 0 ∧ p.length = 0 := by
  rcases h with ⟨_, h1, h2, h3⟩ | ⟨h, _⟩ | ⟨h, _⟩
  · exact ⟨h1, h2, by rw [h3]; rfl⟩
  · exact absurd h h0
  · exact absurd h h0
theorem plan_some {r : Rul} {ss : List Slr} {xs : List Leg} {p : List (List Int)} {a e : Int} (h : PlanR r ss xs p a e) (h0 : openE r ss xs = 0) (hs : (asgP r xs (ss.map boardP) 0 0).1.isSome = true) : (asgP r xs (ss.map boardP) 0 0).1 = some p ∧ a = 0 ∧ e = 0 := by
  rcases h with ⟨h, _⟩ | ⟨_, h⟩ | ⟨_, h, _⟩
  · exact absurd h0 h
  · exact h
  · rw [h] at hs; cases hs
theorem plan_none {r : Rul} {ss : List Slr} {xs : List Leg} {p : List (List Int)} {a e : Int} (h : PlanR r ss xs p a e) (h0 : openE r ss xs = 0) (hs : (asgP r xs (ss.map boardP) 0 0).1.isSome = false) : a = ((asgP r xs (ss.map boardP) 0 0).2 : Int) ∧ e = 7 ∧ p.length = 0 := by
  rcases h with ⟨h, _⟩ | ⟨_, h, _⟩ | ⟨_, _, h1, h2, h3⟩
  · exact absurd h0 h
  · rw [h] at hs; cases hs
  · exact ⟨h1, h2, by rw [h3]; rfl⟩
theorem ver_err {r : Rul} {ss : List Slr} {xs : List Leg} {p : List (List Int)} {v e : Int} (h : VerR r ss xs p v e) (h0 : openE r ss xs ≠ 0) : e = openE r ss xs ∧ v = 0 := by
  rcases h with ⟨_, h1, h2⟩ | ⟨h, _⟩ | ⟨h, _⟩ | ⟨h, _⟩
  · exact ⟨h1, h2⟩
  · exact absurd h h0
  · exact absurd h h0
  · exact absurd h h0
theorem ver_form {r : Rul} {ss : List Slr} {xs : List Leg} {p : List (List Int)} {v e : Int} (h : VerR r ss xs p v e) (h0 : openE r ss xs = 0) (hl : p.length ≠ xs.length) : v = 0 ∧ e = 4 := by
  rcases h with ⟨h, _⟩ | ⟨_, _, h⟩ | ⟨_, h, _⟩ | ⟨_, h, _⟩
  · exact absurd h0 h
  · exact h
  · exact absurd h hl
  · exact absurd h hl
theorem ver_arg {r : Rul} {ss : List Slr} {xs : List Leg} {p : List (List Int)} {v e : Int} (h : VerR r ss xs p v e) (h0 : openE r ss xs = 0) (hl : p.length = xs.length) (hb : p.any (badRow ss.length) = true) : v = 0 ∧ e = 2 := by
  rcases h with ⟨h, _⟩ | ⟨_, h, _⟩ | ⟨_, _, _, h⟩ | ⟨_, _, h, _⟩
  · exact absurd h0 h
  · exact absurd hl h
  · exact h
  · rw [h] at hb; cases hb
theorem ver_good {r : Rul} {ss : List Slr} {xs : List Leg} {p : List (List Int)} {v e : Int} (h : VerR r ss xs p v e) (h0 : openE r ss xs = 0) (hl : p.length = xs.length) (hb : p.any (badRow ss.length) = false) : e = 0 ∧ v = verGo r xs p (ss.map boardP) 0 := by
  rcases h with ⟨h, _⟩ | ⟨_, h, _⟩ | ⟨_, _, h, _⟩ | ⟨_, _, _, h⟩
  · exact absurd h0 h
  · exact absurd hl h
  · rw [h] at hb; cases hb
  · exact h
theorem bad_of {rows : List HL} {n k : Nat} {i : Int} (hk : k < rows.length) (hi : i ∈ (nth rows k).xs) (hb : ¬ (0 ≤ i ∧ i < (n : Int))) : (rows.map HL.xs).any (badRow n) = true :=
  List.any_eq_true.2 ⟨_, List.mem_map.2 ⟨_, nth_mem hk, rfl⟩, by unfold badRow; rw [decide_eq_false (fun h => hb (by have := h i hi; omega))]; rfl⟩
theorem bad_no {rows : List HL} {n : Nat} (h : ∀ k, k < rows.length → ∀ j, j < (nth rows k).xs.length → 0 ≤ nth (nth rows k).xs j ∧ nth (nth rows k).xs j < (n : Int)) : (rows.map HL.xs).any (badRow n) = false := by
  rw [List.any_eq_false]
  intro l hl hb
  obtain ⟨x, hx, rfl⟩ := List.mem_map.1 hl
  obtain ⟨k, hk, rfl⟩ := List.getElem_of_mem hx
  have h2 := h k hk
  rw [nth_eq hk] at h2
  unfold badRow at hb
  rw [decide_eq_true (fun i hi => by
    obtain ⟨j, hj, rfl⟩ := List.getElem_of_mem hi
    have h3 := h2 j hj
    rw [nth_eq hj] at h3
    omega)] at hb
  cases hb
theorem bad_in {p : List (List Int)} {n : Nat} (h : p.any (badRow n) = false) : ∀ l ∈ p, ∀ i ∈ l, 0 ≤ i ∧ i < (n : Int) := fun l hl i hi => by
  have h1 := List.any_eq_false.1 h l hl
  unfold badRow at h1
  have h2 : ∀ i ∈ l, 0 ≤ i ∧ i ≤ (n : Int) - 1 := by simpa using h1
  have := h2 i hi; omega
theorem rPlan_one {P : Program} {f : FuncId} {vs : List Value} {w0 : World} {R : Option (List (List Int)) × Nat}
    (h : CallsV P f vs w0 (fun v w' => ((v = .agg #[.bool false, .slice none 0 0, .int .i64 (R.2 : Int)] ∧ R.1 = none) ∨ (∃ ao g c rows, v = .agg #[.bool true, .slice ao (List.length rows) c, .int .i64 (R.2 : Int)] ∧ R.1 = some (rows.map HL.xs) ∧ Sl encHL 1 w' ao g 0 rows ∧ (∀ h ∈ rows, Sl encI 1 w' h.ao h.b h.o h.xs ∧ h.xs.length ≤ 1000000) ∧ (0 < rows.length → w0.heap.size ≤ g) ∧ ∀ h ∈ rows, 0 < h.xs.length → w0.heap.size ≤ h.b)) ∧ Ext w0 w')) :
    CallsV P f vs w0 (fun v w' => ∃ ao g c rows, v = .agg #[.bool R.1.isSome, .slice ao (List.length rows) c, .int .i64 (R.2 : Int)] ∧ (∀ p, R.1 = some p → p = rows.map HL.xs) ∧ Sl encHL 1 w' ao g 0 rows ∧ (∀ h ∈ rows, Sl encI 1 w' h.ao h.b h.o h.xs ∧ h.xs.length ≤ 1000000) ∧ (0 < rows.length → w0.heap.size ≤ g) ∧ (∀ h ∈ rows, 0 < h.xs.length → w0.heap.size ≤ h.b) ∧ Ext w0 w') :=
  h.mono fun v w' ⟨h1, u⟩ => by
    rcases h1 with ⟨a, b⟩ | ⟨ao, g, c, rows, a, b, e, f, f2, f3⟩
    · exact ⟨none, 0, 0, [], by rw [a, b]; rfl, fun p q => (by rw [b] at q; cases q), Sl.nil _ _ _ _ _ _, fun h hh => (by cases hh), fun h => absurd h (Nat.lt_irrefl 0), fun h hh => (by cases hh), u⟩
    · exact ⟨ao, g, c, rows, by rw [a, b]; rfl, fun p q => (by rw [b] at q; exact (Option.some.inj q).symm), e, f, f2, f3, u⟩

theorem Plan_w (r : Rul) (hs : List HS) (al : Option Addr) (bl ol cl : Nat) (xs : List Leg) (ax : Option Addr) (bx ox cx : Nat) (ss : List Slr) (w0 : World) (hss : hs.map HS.slr = ss) (hl : Sl encHS 4 w0 al bl ol hs) (hll : hs.length ≤ 1000000) (hsm : ∀ h ∈ hs, SlrM w0 h) (hxs : Sl encLeg 7 w0 ax bx ox xs) (hxl : xs.length ≤ 1000000) (hcx : xs.length ≤ cx) (hpos : 0 < w0.heap.size) :
    CallsV Tryz.prog 27 [.agg #[.int .i64 r.rest, .int .i64 r.span, .int .i64 r.work, .int .i64 r.week, .int .i64 r.ww], .slice al hs.length cl, .slice ax xs.length cx] w0 (fun v w' =>
      ∃ ap gp cp rows a e, v = .tuple #[.slice ap (List.length rows) cp, .int .i64 a, .int .i64 e] ∧ Sl encHL 1 w' ap gp 0 rows ∧ (∀ h ∈ rows, Sl encI 1 w' h.ao h.b h.o h.xs) ∧ PlanR r ss xs (rows.map HL.xs) a e ∧ Ext w0 w') := by
  subst hss
  refine (Plan_c r hs al bl ol cl xs ax bx ox cx w0 hl hll hsm hxs hxl hcx hpos).mono fun v w' ⟨⟨ap, gp, cp, rows, a, e, h1, h2, h3, _, h4⟩, u⟩ => ?_
  refine ⟨ap, gp, cp, rows.map (fun h : HR => (⟨h.xs, h.ao, h.g, 0, h.cap⟩ : HL)), a, e, by rw [List.length_map]; exact h1, ⟨fun q => h2.addr (by rw [List.length_map] at q; exact q), fun q => h2.lt (by rw [List.length_map] at q; exact q), fun i hi => ?_⟩, fun h hh => ?_, by rw [List.map_map]; exact h4, u⟩
  · rw [List.length_map] at hi
    rw [nth_map2 _ hi]; exact h2.at_ i hi
  · obtain ⟨q, hq, rfl⟩ := List.mem_map.1 hh
    exact h3 q hq
theorem eqIn68 (n : Nat) (a0 : Int) (a1 : Int) (a2 : Int) (a3 : Int) (a4 : Int) (a5 : Int) (a6 : Int) (b0 : Int) (b1 : Int) (b2 : Int) (b3 : Int) (b4 : Int) (b5 : Int) (b6 : Int) (w : World) : (Op.equalIn (n + 4) 68 (.agg #[.int .i64 a0, .int .i64 a1, .int .i64 a2, .int .i64 a3, .int .i64 a4, .int .i64 a5, .int .i64 a6]) (.agg #[.int .i64 b0, .int .i64 b1, .int .i64 b2, .int .i64 b3, .int .i64 b4, .int .i64 b5, .int .i64 b6])).run Tryz.prog w = .ok (decide (a0 = b0) && ((decide (a1 = b1) && decide (a2 = b2)) && (decide (a3 = b3) && decide (a4 = b4))) && decide (a5 = b5) && decide (a6 = b6)) w := by
  have hS : Tryz.prog.underlying 68 = some (.struct (Tryz.prog.fieldsOf 68)) := by kernel_rfl
  have hp : Tryz.prog.stoodInHeld 68 = false := by kernel_rfl
  have p0 : ∀ (a0 : Int) (a1 : Int) (a2 : Int) (a3 : Int) (a4 : Int) (a5 : Int) (a6 : Int), (part 3 #[.int .i64 a0, .int .i64 a1, .int .i64 a2, .int .i64 a3, .int .i64 a4, .int .i64 a5, .int .i64 a6] 0).run Tryz.prog w = .ok (.int .i64 a0) w := fun _ _ _ _ _ _ _ => by simp [part, isAgg3]
  have p1 : ∀ (a0 : Int) (a1 : Int) (a2 : Int) (a3 : Int) (a4 : Int) (a5 : Int) (a6 : Int), (part 37 #[.int .i64 a0, .int .i64 a1, .int .i64 a2, .int .i64 a3, .int .i64 a4, .int .i64 a5, .int .i64 a6] 1).run Tryz.prog w = .ok (.agg #[.int .i64 a1, .int .i64 a2, .int .i64 a3, .int .i64 a4]) w := fun _ _ _ _ _ _ _ => by simp [part, isAgg37, sizeOf37]
  have p2 : ∀ (a0 : Int) (a1 : Int) (a2 : Int) (a3 : Int) (a4 : Int) (a5 : Int) (a6 : Int), (part 3 #[.int .i64 a0, .int .i64 a1, .int .i64 a2, .int .i64 a3, .int .i64 a4, .int .i64 a5, .int .i64 a6] 5).run Tryz.prog w = .ok (.int .i64 a5) w := fun _ _ _ _ _ _ _ => by simp [part, isAgg3]
  have p3 : ∀ (a0 : Int) (a1 : Int) (a2 : Int) (a3 : Int) (a4 : Int) (a5 : Int) (a6 : Int), (part 3 #[.int .i64 a0, .int .i64 a1, .int .i64 a2, .int .i64 a3, .int .i64 a4, .int .i64 a5, .int .i64 a6] 6).run Tryz.prog w = .ok (.int .i64 a6) w := fun _ _ _ _ _ _ _ => by simp [part, isAgg3]
  have e3 := fun a b w => equal_i64 underlying3 (n + 2) a b w
  have e37 := eqIn37 (n + 0)
  rw [run_equalIn_struct w (n + 3) 68 _ _ hS hp]
  simp only [Program.fieldsOf, underlying68]
  simp only [Op.eqFields, Sem.run_bind, Sem.run_ite, p0, p1, p2, p3, e3, e37, Result.andThen_ok]
  by_cases h0 : a0 = b0 <;> by_cases h1 : ((decide (a1 = b1) && decide (a2 = b2)) && (decide (a3 = b3) && decide (a4 = b4))) = true <;> by_cases h2 : a5 = b5 <;> by_cases h3 : a6 = b6 <;> simp [h0, h1, h2, h3]

theorem same_c (r1 : List HL) (ax : Option Addr) (bx ox cx : Nat) (r2 : List HL) (ay : Option Addr) (by9 oy cy : Nat) (w0 : World) (hx : Sl encHL 1 w0 ax bx ox r1) (hy : Sl encHL 1 w0 ay by9 oy r2) (hxl : r1.length ≤ 1000000) (hm1 : ∀ h ∈ r1, Sl encI 1 w0 h.ao h.b h.o h.xs ∧ h.xs.length ≤ 1000000) (hm2 : ∀ h ∈ r2, Sl encI 1 w0 h.ao h.b h.o h.xs ∧ h.xs.length ≤ 1000000) :
    CallsV Tryz.prog 29 [.slice ax r1.length cx, .slice ay r2.length cy] w0 (fun v w' => v = .bool (decide (r1.map HL.xs = r2.map HL.xs)) ∧ Ext w0 w') := by
 have E0 := Upd.refl (fun _ => False) w0
 refine f_enter (N := 27) func29 rfl rfl rfl (c_seq fun K1 hK1 => (c_region (t_assign rfl rfl rfl (t_nil' (hK1 _ _ (c_seq fun K2 hK2 => (c_seq fun K3 hK3 => (c_region (t_move rfl rfl rfl (t_len underlying56 rfl rfl rfl rfl (t_move rfl rfl rfl (t_len underlying56 rfl rfl rfl rfl (t_cmp rfl rfl rfl rfl rfl (t_nil' (hK3 _ _ (c_condp rfl (fun g10 => ?_) (fun g10 => ?_)))))))))))))))))
 ·
  refine c_seq fun K4 hK4 => (c_region (t_assign rfl rfl rfl (t_nil' (hK4 _ _ (c_ret (f_ret1 (v := .bool false) results29 rfl ?_))))))
  exact ⟨congrArg Value.bool (decide_eq_false (fun e => by have h9 := congrArg List.length e; rw [List.length_map, List.length_map] at h9; omega)).symm, E0⟩
 refine c_skip (hK2 _ _ (c_seq fun K5 hK5 => (c_seq fun K6 hK6 => (c_region (t_assign rfl rfl rfl (t_nil' (hK6 _ _ (c_block (c_loop (γ := Nat) (fun k => [(0, .slice ax r1.length cx), (1, .slice ay r2.length cy), (5, .int .i64 (k : Int))]) (fun k w => Upd (fun _ => False) w0 w ∧ (k ≤ r1.length) ∧ (∀ j, j < k → (nth r1 j).xs = (nth r2 j).xs)) (fun k => r1.length - k) 0 ⟨rfl, rfl, rfl, trivial⟩ ⟨Upd.refl _ _, (Nat.zero_le _), (fun j hj => absurd hj (Nat.not_lt_zero _))⟩ ?_)))))))))
 intro k w8 hW K7 hK7
 obtain ⟨u9, I10, I11⟩ := hW
 have zu9 := u9.size
 have E12 := E0.nx u9
 have hk := I10; clear I10
 have he := I11; clear I11
 refine c_seq fun K13 hK13 => (c_seq fun K14 hK14 => (c_region (t_move rfl rfl rfl (t_move rfl rfl rfl (t_len underlying56 rfl rfl rfl rfl (t_cmp rfl rfl rfl rfl rfl (t_nil' (hK14 _ _ (c_condp rfl (fun g14 => ?_) (fun g14 => ?_))))))))))
 ·
  refine c_skip (hK13 _ _ (c_seq fun K15 hK15 => (c_block (c_seq fun K16 hK16 => (c_drawnM follows (fun _ => False) (.look 0 (.look 1 (.look 2 (.look 3 (.look 4 (.look 5 (.look 6 (.look 7 (.act 8 (.look 9 .done) .stop))))))))) (by kernel_rfl) fun w17 u18 => ?_)))))
  have zu18 := u18.size
  have E19 := E12.nx u18
  refine y_move rfl rfl rfl (y_move rfl rfl rfl ?_)
  have i20 : k < r1.length := (by omega)
  refine y_index (j := k) underlying56 sizeOf60 rfl rfl rfl rfl ((hx.keep E19 (fun _ z => z)).addr (by omega)) rfl i20 (y_load isAgg60 rfl rfl rfl (((hx.keep E19 (fun _ z => z)).at_ k (by omega)) 0 _ rfl) (fun h => h) (y_move rfl rfl rfl (y_move rfl rfl rfl ?_)))
  have i21 : k < r2.length := (by omega)
  refine y_index (j := k) underlying56 sizeOf60 rfl rfl rfl rfl ((hy.keep E19 (fun _ z => z)).addr (by omega)) rfl i21 (y_load isAgg60 rfl rfl rfl (((hy.keep E19 (fun _ z => z)).at_ k (by omega)) 0 _ rfl) (fun h => h) (s_do (t_call own40 rfl rfl rfl rfl (equal_c ((nth r1 k).xs) ((nth r1 k).ao) (nth r1 k).b ((nth r1 k).o) ((nth r1 k).cap) ((nth r2 k).xs) ((nth r2 k).ao) (nth r2 k).b ((nth r2 k).o) ((nth r2 k).cap) _ ((hm1 (nth r1 k) (nth_mem (by omega))).1.keep E19 (fun _ z => z)) ((hm2 (nth r2 k) (nth_mem (by omega))).1.keep E19 (fun _ z => z)) (hm1 _ (nth_mem (by omega))).2) (fun v22 w23 r25 => ?_))))
  obtain ⟨rfl, u24⟩ := r25
  have zu24 := u24.size
  refine s_next ((Upd.refl _ _).nx u24) (y_not rfl rfl rfl (s_nil (hK16 _ _ (c_cond rfl (fun g26 => ?_) (fun g26 => ?_)))))
  ·
   refine c_seq fun K27 hK27 => (c_region (t_assign rfl rfl rfl (t_nil' (hK27 _ _ (c_ret (f_ret1 (v := .bool false) results29 rfl ?_))))))
   exact ⟨congrArg Value.bool (decide_eq_false (fun e => by
     have h9 : nth (r1.map HL.xs) k = nth (r2.map HL.xs) k := congrArg (fun z => nth z k) e
     rw [nth_map2 _ (by omega), nth_map2 _ (by omega)] at h9
     rw [decide_eq_true h9] at g26; cases g26)).symm, (E19.nx u24)⟩
  refine c_skip (hK15 _ _ (c_region (t_move rfl rfl rfl (t_ari rfl rfl rfl rfl rfl (by omega) (t_assign rfl rfl rfl (t_nil' ?_))))))
  exact hK7 (k + 1) _ _ (by omega) ⟨rfl, rfl, rfl, trivial⟩ ⟨((u9.nx u18).nx u24), (by omega), (fun j hj => by
    rcases Nat.lt_or_ge j k with q | q
    · exact he j q
    · rw [show j = k by omega]; simpa using g26)⟩
 refine c_exit (hK5 _ _ (c_seq fun K28 hK28 => (c_region (t_assign rfl rfl rfl (t_nil' (hK28 _ _ (c_ret (f_ret1 (v := .bool true) results29 rfl ?_))))))))
 exact ⟨congrArg Value.bool (decide_eq_true (ext_nth (by rw [List.length_map, List.length_map]; omega) (fun j hj => by rw [List.length_map] at hj; rw [nth_map2 _ (by omega), nth_map2 _ (by omega)]; exact he j (by omega)))).symm, E12⟩

theorem asg_len {r : Rul} {xs : List Leg} {ms : List Mb} {k u : Nat} {q : List (List Int)} (h : (asgP r xs ms k u).1 = some q) : q.length = xs.length := by
  obtain ⟨p, hp, e⟩ := asg_some h
  rw [e, List.length_map, planOk_len hp]
set_option maxHeartbeats 4000000 in
theorem CrewPlans_c (r : Rul) (hs : List HS) (al : Option Addr) (bl ol cl : Nat) (xs : List Leg) (ax : Option Addr) (bx ox cx : Nat) (rows : List HL) (ar : Option Addr) (br or_ cr : Nat) (w0 : World) (hl : Sl encHS 4 w0 al bl ol hs) (hll : hs.length ≤ 9223372036854775807) (hsm9 : ∀ x ∈ hs, Sl encPpr 2 w0 x.ap x.bp x.op x.ps ∧ x.ps.length ≤ 9223372036854775807 ∧ Sl encDty 4 w0 x.ad x.bd x.od x.ds ∧ x.ds.length ≤ 9223372036854775807) (hxs : Sl encLeg 7 w0 ax bx ox xs) (hxl : xs.length ≤ 9223372036854775807) (hcx : xs.length ≤ cx) (hr9 : Sl encHL 1 w0 ar br or_ rows) (hrl9 : rows.length ≤ 9223372036854775807) (hcr : rows.length ≤ cr) (hrm9 : ∀ x ∈ rows, Sl encI 1 w0 x.ao x.b x.o x.xs ∧ x.xs.length ≤ 9223372036854775807) :
    CallsV Tryz.prog 5 [.agg #[.int .i64 r.rest, .int .i64 r.span, .int .i64 r.work, .int .i64 r.week, .int .i64 r.ww], .slice al hs.length cl, .agg #[.slice ax xs.length cx, .slice ar rows.length cr]] w0 (fun v w' => v = .bool true ∧ Ext w0 w') := by
 refine f_enter (N := 245) func5 rfl rfl rfl (c_seq fun K1 hK1 => (c_region (t_box (cs := [.int .i64 r.rest, .int .i64 r.span, .int .i64 r.work, .int .i64 r.week, .int .i64 r.ww]) rfl rfl rfl rfl (fun bk2 w3 ebk2 sbk2 B4 u5 => ?_))))
 have zu5 := u5.size
 refine t_box (cs := [.slice ax xs.length cx, .slice ar rows.length cr]) rfl rfl rfl rfl (fun bk7 w8 ebk7 sbk7 B9 u10 => ?_)
 have zu10 := u10.size
 have E11 := ((Upd.refl (fun _ => False) w0).nx u5).nx u10
 refine t_assign rfl rfl rfl (t_nil' (hK1 _ _ (c_seq fun K12 hK12 => (c_cut (γ := Bool) (fun q => [(1, .slice al hs.length cl), (3, .pointer (some ⟨bk2, 0, none⟩)), (5, .pointer (some ⟨bk7, 0, none⟩)), (37, .bool q)]) (fun q w => Upd (fun _ => False) w8 w ∧ (q = (grtP hs xs.length || hvyP hs.length xs.length || decide (12 < rows.length)))) (fun K14 hK14 => ?_) ?_))))
 ·
  refine c_region (t_move rfl rfl rfl (t_field underlying58 rfl sizeOf55 (0) rfl rfl rfl rfl (t_load isAgg55 rfl rfl rfl (B9.get rfl) (t_call own22 rfl rfl rfl rfl (great_c hs al bl ol cl ax xs.length cx _ (hl.keep E11 (fun _ z => z)) (by omega)) (fun v17 w18 r20 => ?_)))))
  obtain ⟨rfl, u19⟩ := r20
  have zu19 := u19.size
  refine t_move rfl rfl rfl (t_split 26 rfl (fun g26 => ?_) (fun g26 => ?_))
  ·
   refine t_skip rfl rfl rfl (t_skip rfl rfl rfl (t_skip rfl rfl rfl (t_skip rfl rfl rfl (t_pick_t rfl rfl rfl rfl (t_move rfl rfl rfl (t_skip rfl rfl rfl (t_skip rfl rfl rfl (t_skip rfl rfl rfl (t_skip rfl rfl rfl (t_pick_t rfl rfl rfl rfl (t_nil' ?_)))))))))))
   exact hK14 true _ _ ⟨rfl, rfl, rfl, rfl, trivial⟩ ⟨((Upd.refl _ _).nx u19), (by rw [g26]; rfl)⟩
  refine t_move rfl rfl rfl (t_field underlying58 rfl sizeOf55 (0) rfl rfl rfl rfl ?_)
  have B22 := (B9.kx u19)
  refine t_load isAgg55 rfl rfl rfl (B22.get rfl) (t_call own23 rfl rfl rfl rfl (heavy_c hs.length xs.length al ax cl cx _) (fun v23 w24 r26 => ?_))
  obtain ⟨rfl, u25⟩ := r26
  have zu25 := u25.size
  refine t_pick_f rfl rfl rfl rfl (t_move rfl rfl rfl (t_split 32 rfl (fun g32 => ?_) (fun g32 => ?_)))
  ·
   refine t_skip rfl rfl rfl (t_skip rfl rfl rfl (t_skip rfl rfl rfl (t_skip rfl rfl rfl (t_pick_t rfl rfl rfl rfl (t_nil' ?_)))))
   exact hK14 true _ _ ⟨rfl, rfl, rfl, rfl, trivial⟩ ⟨(((Upd.refl _ _).nx u19).nx u25), (by rw [g26, g32]; rfl)⟩
  refine t_field underlying58 rfl sizeOf56 (1) rfl rfl rfl rfl ?_
  have B28 := (B22.kx u25)
  refine t_load isAgg56 rfl rfl rfl (B28.get rfl) (t_len underlying56 rfl rfl rfl rfl (t_cmp rfl rfl rfl rfl rfl (t_pick_f rfl rfl rfl rfl (t_nil' ?_))))
  exact hK14 (decide (12 < (rows.length : Int))) _ _ ⟨rfl, rfl, rfl, rfl, trivial⟩ ⟨(((Upd.refl _ _).nx u19).nx u25), (by rw [g26, g32, Bool.false_or, Bool.false_or, Bool.eq_iff_iff]; simp only [decide_eq_true_eq]; omega)⟩
 intro q w15 hW
 obtain ⟨u16, I29⟩ := hW
 have zu16 := u16.size
 have E30 := E11.nx u16
 have hq := I29; clear I29
 refine c_cond rfl (fun g37 => ?_) (fun g37 => ?_)
 ·
  refine c_seq fun K31 hK31 => (c_region (t_call own8 rfl rfl rfl rfl (known_c _) (fun v32 w33 r35 => ?_)))
  obtain ⟨rfl, u34⟩ := r35
  have zu34 := u34.size
  refine t_assign rfl rfl rfl (t_nil' (hK31 _ _ (c_ret (f_ret1 (v := .bool true) results5 rfl ?_))))
  exact ⟨rfl, (E30.nx u34)⟩
 rw [hq] at g37
 obtain ⟨hg0, h12⟩ := Bool.or_eq_false_iff.1 g37
 obtain ⟨hgr, hhv⟩ := Bool.or_eq_false_iff.1 hg0
 have hr12 := of_decide_eq_false h12
 obtain ⟨hh8, hx10, hgh⟩ := grt_no hgr
 have hsM0 : ∀ h ∈ hs, SlrM w0 h := fun h hh => by
   have h1 := hsm9 h hh; have h2 := hgh h hh
   exact ⟨h1.1, by omega, h1.2.2.1, by omega⟩
 obtain ⟨ss, hse⟩ : ∃ ss, ss = hs.map HS.slr := ⟨_, rfl⟩
 have hssl : ss.length = hs.length := by rw [hse, List.length_map]
 refine c_skip (hK12 _ _ (c_seq fun K37 hK37 => (c_seq fun K38 hK38 => (c_region (t_assign rfl rfl rfl (t_nil' (hK38 _ _ (c_block (c_loop (γ := Nat) (fun k => [(1, .slice al hs.length cl), (3, .pointer (some ⟨bk2, 0, none⟩)), (5, .pointer (some ⟨bk7, 0, none⟩)), (7, .int .i64 (k : Int))]) (fun k w => Upd (fun _ => False) w15 w ∧ (k ≤ rows.length) ∧ (∀ j, j < k → (nth rows j).xs.length ≤ 10)) (fun k => rows.length - k) 0 ⟨rfl, rfl, rfl, rfl, trivial⟩ ⟨Upd.refl _ _, (Nat.zero_le _), (fun j hj => absurd hj (Nat.not_lt_zero _))⟩ ?_)))))))))
 intro k w40 hW K39 hK39
 obtain ⟨u41, I42, I43⟩ := hW
 have zu41 := u41.size
 have E44 := E30.nx u41
 have hk := I42; clear I42
 have hno := I43; clear I43
 refine c_seq fun K45 hK45 => (c_seq fun K46 hK46 => (c_region (t_move rfl rfl rfl (t_field underlying58 rfl sizeOf56 (1) rfl rfl rfl rfl ?_))))
 have B47 := ((B9.kx u16).kx u41)
 refine t_load isAgg56 rfl rfl rfl (B47.get rfl) (t_len underlying56 rfl rfl rfl rfl (t_cmp rfl rfl rfl rfl rfl (t_nil' (hK46 _ _ (c_condp rfl (fun g43 => ?_) (fun g43 => ?_))))))
 ·
  refine c_skip (hK45 _ _ (c_seq fun K48 hK48 => (c_block (c_seq fun K49 hK49 => (c_region (t_field underlying58 rfl sizeOf56 (1) rfl rfl rfl rfl (t_load isAgg56 rfl rfl rfl (B47.get rfl) (t_move rfl rfl rfl ?_))))))))
  have i50 : k < rows.length := (by omega)
  refine t_index (j := k) underlying56 sizeOf60 rfl rfl rfl rfl ((hr9.keep E44 (fun _ z => z)).addr (by omega)) rfl i50 (t_load isAgg60 rfl rfl rfl (((hr9.keep E44 (fun _ z => z)).at_ k (by omega)) 0 _ rfl) (t_len underlying60 rfl rfl rfl rfl (t_cmp rfl rfl rfl rfl rfl (t_nil' (hK49 _ _ (c_condp rfl (fun g52 => ?_) (fun g52 => ?_)))))))
  ·
   refine c_seq fun K51 hK51 => (c_region (t_call own8 rfl rfl rfl rfl (known_c _) (fun v52 w53 r55 => ?_)))
   obtain ⟨rfl, u54⟩ := r55
   have zu54 := u54.size
   refine t_assign rfl rfl rfl (t_nil' (hK51 _ _ (c_ret (f_ret1 (v := .bool true) results5 rfl ?_))))
   exact ⟨rfl, (E44.nx u54)⟩
  refine c_skip (hK48 _ _ (c_region (t_move rfl rfl rfl (t_ari rfl rfl rfl rfl rfl (by omega) (t_assign rfl rfl rfl (t_nil' ?_))))))
  exact hK39 (k + 1) _ _ (by omega) ⟨rfl, rfl, rfl, rfl, trivial⟩ ⟨u41, (by omega), (fun j hj => by
    rcases Nat.lt_or_ge j k with q | q
    · exact hno j q
    · rw [show j = k by omega]; omega)⟩
 have hrm0 : ∀ h ∈ rows, Sl encI 1 w0 h.ao h.b h.o h.xs ∧ h.xs.length ≤ 1000000 := fun h hh => by
   obtain ⟨j, hj, rfl⟩ := List.getElem_of_mem hh
   have h1 := hno j (by omega)
   rw [nth_eq hj] at h1
   exact ⟨(hrm9 _ hh).1, by omega⟩
 refine c_exit (hK37 _ _ (c_seq fun K57 hK57 => (c_drawnM follows (fun _ => False) (.look 0 (.look 2 (.look 3 (.look 5 (.look 6 (.act 1 (.act 4 (.act 7 (.look 8 (.look 9 (.look 10 .done))) .stop) .stop) .stop)))))) (by kernel_rfl) fun w58 u59 => ?_)))
 have zu59 := u59.size
 have E60 := E44.nx u59
 refine y_move rfl rfl rfl (y_field underlying58 rfl sizeOf55 (0) rfl rfl rfl rfl ?_)
 have B61 := (B47.kx u59)
 refine y_load isAgg55 rfl rfl rfl (B61.get rfl) (fun h => h) (y_field underlying58 rfl sizeOf56 (1) rfl rfl rfl rfl (y_load isAgg56 rfl rfl rfl (B61.get rfl) (fun h => h) (s_do (t_call own24 rfl rfl rfl rfl (sailors_c hs al bl ol cl _ (hl.keep E60 (fun _ z => z)) (by omega) (fun h hh => (hsM0 h hh).keepE E60) (by omega)) (fun v63 w64 r66 => ?_)))))
 obtain ⟨⟨aoW62, gW62, cW62, oW62, rfl, haW62, hmW62, hsW62⟩, u65⟩ := r66
 have zu65 := u65.size
 have E67 := E60.nx u65
 have lt_gW62 := haW62.lt
 have hlW62 : oW62.length = hs.length := by have := congrArg List.length hmW62; simpa using this
 refine s_next ((Upd.refl _ _).nx u65) (s_do (t_call own25 rfl rfl rfl rfl (legs_c xs ax bx ox cx _ (hxs.keep E67 (fun _ z => z)) (by omega) (by omega)) (fun v69 w70 r72 => ?_)))
 obtain ⟨⟨aoG68, gG68, cG68, rfl, haG68⟩, u71⟩ := r72
 have zu71 := u71.size
 have E73 := E67.nx u71
 have lt_gG68 := haG68.lt
 have hcapG68 := haG68.cap_le
 refine s_next ((Upd.refl _ _).nx u71) (s_do (t_call own26 rfl rfl rfl rfl (lists_c rows ar br or_ cr _ (hr9.keep E73 (fun _ z => z)) (by omega) (fun h hh => ⟨(hrm0 h hh).1.keep E73 (fun _ z => z), (hrm0 h hh).2⟩) (by omega)) (fun v75 w76 r78 => ?_)))
 obtain ⟨⟨aoV74, gV74, cV74, oV74, rfl, haV74, hmV74, hsV74⟩, u77⟩ := r78
 have zu77 := u77.size
 have lt_gV74 := haV74.lt
 have hlV74 : oV74.length = rows.length := by have := congrArg List.length hmV74; simpa using this
 have hltV := haV74.lt
 refine s_next ((Upd.refl _ _).nx u77) (y_assign rfl rfl rfl (y_assign rfl rfl rfl (y_assign rfl rfl rfl (s_nil (hK57 _ _ (c_seq fun K80 hK80 => (c_region ?_)))))))
 have B81 := (((((((B4.kx u10).kx u16).kx u41).kx u59).kx u65).kx u71).kx u77)
 refine t_loadN (vs := [.int .i64 r.rest, .int .i64 r.span, .int .i64 r.work, .int .i64 r.week, .int .i64 r.ww]) isAgg23 sizeOf23 rfl rfl rfl (B81.at.sub 0 5) rfl (t_move rfl rfl rfl (t_move rfl rfl rfl ?_))
 have D82 := ((haW62.kE u71).kE u77)
 have D83 := (haG68.kE u77)
 refine t_call own27 rfl rfl rfl rfl (Plan_w r oW62 aoW62 gW62 0 cW62 xs aoG68 gG68 0 cG68 ss _ (hmW62.trans hse.symm) (D82.sl (fun _ => rfl)) (by omega) (fun h hh => ((hsW62 h hh).ext (((Upd.refl (fun _ => False) _).nx u71).nx u77)).slrM) (D83.sl (fun _ => rfl)) (by omega) (by omega) (by omega)) (fun v84 w85 r87 => ?_)
 rcases r87 with ⟨aP, gP, cP, rwP, atP, eP, rfl, hSP, hMP, hPR, u86⟩
 have zu86 := u86.size
 refine t_move rfl rfl rfl (t_extract rfl rfl rfl rfl (t_extract rfl rfl rfl rfl (t_extract rfl rfl rfl rfl (t_assign rfl rfl rfl (t_assign rfl rfl rfl (t_assign rfl rfl rfl (t_nil' (hK80 _ _ (c_seq fun K89 hK89 => (c_region ?_))))))))))
 have B90 := (B81.kx u86)
 refine t_loadN (vs := [.int .i64 r.rest, .int .i64 r.span, .int .i64 r.work, .int .i64 r.week, .int .i64 r.ww]) isAgg23 sizeOf23 rfl rfl rfl (B90.at.sub 0 5) rfl (t_move rfl rfl rfl (t_move rfl rfl rfl (t_move rfl rfl rfl ?_)))
 have D91 := (D82.kE u86)
 have D92 := (D83.kE u86)
 have D93 := (haV74.kE u86)
 refine t_call own28 rfl rfl rfl rfl (Verify_c r oW62 aoW62 gW62 0 cW62 xs aoG68 gG68 0 cG68 oV74 aoV74 gV74 0 cV74 _ (D91.sl (fun _ => rfl)) (by omega) (fun h hh => ((hsW62 h hh).ext ((((Upd.refl (fun _ => False) _).nx u71).nx u77).nx u86)).slrM) (D92.sl (fun _ => rfl)) (by omega) (D93.sl (fun _ => rfl)) (by omega) (fun h hh => ((hsV74 h hh).ext ((Upd.refl (fun _ => False) _).nx u86)).sl) (by omega)) (fun v94 w95 r97 => ?_)
 obtain ⟨⟨vV, eV, rfl, hVR⟩, u96⟩ := r97
 have zu96 := u96.size
 rw [hmW62.trans hse.symm] at hVR
 obtain ⟨hlV, hmV⟩ : oV74.length = rows.length ∧ oV74.map HL.xs = rows.map HL.xs := ⟨hlV74, hmV74⟩
 refine t_move rfl rfl rfl (t_extract rfl rfl rfl rfl (t_extract rfl rfl rfl rfl (t_assign rfl rfl rfl (t_assign rfl rfl rfl (t_nil' (hK89 _ _ (c_seq fun K99 hK99 => (c_seq fun K100 hK100 => (c_region (t_assign rfl rfl rfl (t_nil' (hK100 _ _ (c_block (c_loop (γ := Nat) (fun k => [(1, .slice al hs.length cl), (3, .pointer (some ⟨bk2, 0, none⟩)), (5, .pointer (some ⟨bk7, 0, none⟩)), (9, .slice aoG68 xs.length cG68), (10, .slice aoV74 oV74.length cV74), (11, .slice aP rwP.length cP), (12, .int .i64 atP), (13, .int .i64 eP), (14, .int .i64 vV), (15, .int .i64 eV), (16, .int .i64 (k : Int))]) (fun k w => Upd (fun _ => False) w95 w ∧ (k ≤ xs.length)) (fun k => xs.length - k) 0 ⟨rfl, rfl, rfl, rfl, rfl, rfl, rfl, rfl, rfl, rfl, rfl, trivial⟩ ⟨Upd.refl _ _, (Nat.zero_le _)⟩ ?_))))))))))))))
 intro k w102 hW K101 hK101
 obtain ⟨u103, I104⟩ := hW
 have zu103 := u103.size
 have E105 := (((E73.nx u77).nx u86).nx u96).nx u103
 have hk := I104; clear I104
 refine c_seq fun K106 hK106 => (c_seq fun K107 hK107 => (c_region (t_move rfl rfl rfl (t_move rfl rfl rfl (t_len underlying55 rfl rfl rfl rfl (t_cmp rfl rfl rfl rfl rfl (t_nil' (hK107 _ _ (c_condp rfl (fun g81 => ?_) (fun g81 => ?_))))))))))
 ·
  refine c_skip (hK106 _ _ (c_seq fun K108 hK108 => (c_block (c_seq fun K109 hK109 => (c_drawnM follows (fun _ => False) (.look 0 (.look 1 (.look 2 (.look 3 (.look 4 (.look 5 (.look 6 (.look 7 (.look 8 (.look 9 .done)))))))))) (by kernel_rfl) fun w110 u111 => ?_)))))
  have zu111 := u111.size
  have E112 := E105.nx u111
  refine y_move rfl rfl rfl (y_move rfl rfl rfl ?_)
  have D113 := (((D92.kE u96).kE u103).kE u111)
  have i114 : k < xs.length := (by omega)
  refine y_index (j := k) underlying55 sizeOf68 rfl rfl rfl rfl ((D113.sl (fun _ => rfl)).addr (by omega)) rfl i114 ?_
  have D115 := (((D92.kE u96).kE u103).kE u111)
  refine y_loadN (vs := [.int .i64 ((nth xs k).r), .int .i64 ((nth xs k).t.bl), .int .i64 ((nth xs k).t.bh), .int .i64 ((nth xs k).t.el), .int .i64 ((nth xs k).t.eh), .int .i64 ((nth xs k).h), .int .i64 ((nth xs k).p)]) isAgg68 sizeOf68 rfl rfl rfl (((D115.sl (fun _ => rfl)).at_ k (by omega)).sub 0 7) rfl (fun h => h) (y_field underlying58 rfl sizeOf55 (0) rfl rfl rfl rfl ?_)
  have B116 := ((((((((B47.kx u59).kx u65).kx u71).kx u77).kx u86).kx u96).kx u103).kx u111)
  refine y_load isAgg55 rfl rfl rfl (B116.get rfl) (fun h => h) (y_move rfl rfl rfl ?_)
  have i117 : k < xs.length := (by omega)
  refine y_index (j := k) underlying55 sizeOf68 rfl rfl rfl rfl ((hxs.keep E112 (fun _ z => z)).addr (by omega)) rfl i117 (y_loadN (vs := [.int .i64 ((nth xs k).r), .int .i64 ((nth xs k).t.bl), .int .i64 ((nth xs k).t.bh), .int .i64 ((nth xs k).t.el), .int .i64 ((nth xs k).t.eh), .int .i64 ((nth xs k).h), .int .i64 ((nth xs k).p)]) isAgg68 sizeOf68 rfl rfl rfl (((hxs.keep E112 (fun _ z => z)).at_ k (by omega)).sub 0 7) rfl (fun h => h) (y_neS (xs := [.int .i64 ((nth xs k).r), .int .i64 ((nth xs k).t.bl), .int .i64 ((nth xs k).t.bh), .int .i64 ((nth xs k).t.el), .int .i64 ((nth xs k).t.eh), .int .i64 ((nth xs k).h), .int .i64 ((nth xs k).p)]) (ys := [.int .i64 ((nth xs k).r), .int .i64 ((nth xs k).t.bl), .int .i64 ((nth xs k).t.bh), .int .i64 ((nth xs k).t.el), .int .i64 ((nth xs k).t.eh), .int .i64 ((nth xs k).h), .int .i64 ((nth xs k).p)]) (by kernel_rfl) (eqIn68 9996 ((nth xs k).r) ((nth xs k).t.bl) ((nth xs k).t.bh) ((nth xs k).t.el) ((nth xs k).t.eh) ((nth xs k).h) ((nth xs k).p) ((nth xs k).r) ((nth xs k).t.bl) ((nth xs k).t.bh) ((nth xs k).t.el) ((nth xs k).t.eh) ((nth xs k).h) ((nth xs k).p)) rfl rfl rfl rfl (y_samehd (v := .bool false) (by simp) (s_nil (hK109 _ _ (c_cond_f rfl (c_skip (hK108 _ _ (c_region (t_move rfl rfl rfl (t_ari rfl rfl rfl rfl rfl (by omega) (t_assign rfl rfl rfl (t_nil' ?_)))))))))))))
  exact hK101 (k + 1) _ _ (by omega) ⟨rfl, rfl, rfl, rfl, rfl, rfl, rfl, rfl, rfl, rfl, rfl, trivial⟩ ⟨(u103.nx u111), (by omega)⟩
 refine c_exit (hK99 _ _ (c_seq fun K118 hK118 => (c_seq fun K119 hK119 => (c_region (t_move rfl rfl rfl (t_field underlying58 rfl sizeOf56 (1) rfl rfl rfl rfl ?_))))))
 have B120 := (((((((B47.kx u59).kx u65).kx u71).kx u77).kx u86).kx u96).kx u103)
 refine t_load isAgg56 rfl rfl rfl (B120.get rfl) ?_
 have D121 := ((D93.kE u96).kE u103)
 refine t_call own29 rfl rfl rfl rfl ((same_c oV74 aoV74 gV74 0 cV74 rows ar br or_ cr _ (D121.sl (fun _ => rfl)) (hr9.keep E105 (fun _ z => z)) (by omega) (fun h hh => ((hsV74 h hh).ext ((((Upd.refl (fun _ => False) _).nx u86).nx u96).nx u103)).sl) (fun h hh => ⟨(hrm0 h hh).1.keep E105 (fun _ z => z), (hrm0 h hh).2⟩)).mono fun v w9 h9 => (⟨h9.1.trans (congrArg Value.bool (decide_eq_true hmV)), h9.2⟩ : v = .bool true ∧ Ext w102 w9)) (fun v122 w123 r125 => ?_)
 obtain ⟨rfl, u124⟩ := r125
 have zu124 := u124.size
 have E126 := E105.nx u124
 refine t_not rfl rfl rfl (t_nil' (hK119 _ _ (c_cond_f rfl (c_skip (hK118 _ _ (c_seq fun K127 hK127 => (c_region (t_assign rfl rfl rfl (t_nil' (hK127 _ _ (c_cut (γ := Nat) (fun zz => [(1, .slice al hs.length cl), (3, .pointer (some ⟨bk2, 0, none⟩)), (5, .pointer (some ⟨bk7, 0, none⟩)), (9, .slice aoG68 xs.length cG68), (10, .slice aoV74 oV74.length cV74), (11, .slice aP rwP.length cP), (12, .int .i64 atP), (13, .int .i64 eP), (14, .int .i64 vV), (15, .int .i64 eV), (17, .int .i64 (openE r ss xs))]) (fun zz w => Upd (fun _ => False) w123 w) (fun K129 hK129 => ?_) ?_)))))))))))
 ·
  refine c_seq fun K132 hK132 => (c_region ?_)
  have B133 := (((B90.kx u96).kx u103).kx u124)
  refine t_loadN (vs := [.int .i64 r.rest, .int .i64 r.span, .int .i64 r.work, .int .i64 r.week, .int .i64 r.ww]) isAgg23 sizeOf23 rfl rfl rfl (B133.at.sub 0 5) rfl (t_call own13 rfl rfl rfl rfl (rRules_c r _) (fun v134 w135 r137 => ?_))
  obtain ⟨rfl, u136⟩ := r137
  have zu136 := u136.size
  have E138 := E126.nx u136
  refine t_nil' (hK132 _ _ (c_cond rfl (fun g100 => ?_) (fun g100 => ?_)))
  ·
   have hwant : allE (hs.map HS.slr) xs = (openE r ss xs) := by rw [← hse]; exact (openE_good g100).symm
   refine c_region (t_move rfl rfl rfl (t_field underlying58 rfl sizeOf55 (0) rfl rfl rfl rfl ?_))
   have B139 := ((B120.kx u124).kx u136)
   refine t_load isAgg55 rfl rfl rfl (B139.get rfl) (t_call own30 rfl rfl rfl rfl (rAll_c hs al bl ol cl xs ax bx ox cx _ (hl.keep E138 (fun _ z => z)) (fun h hh => (hsM0 h hh).keepE E138) (hxs.keep E138 (fun _ z => z))) (fun v140 w141 r143 => ?_))
   obtain ⟨rfl, u142⟩ := r143
   have zu142 := u142.size
   refine t_assign rfl rfl rfl (t_nil' ?_)
   exact hK129 0 _ _ ⟨rfl, rfl, rfl, rfl, rfl, rfl, rfl, rfl, rfl, rfl, (congrArg (fun z => some (Value.int .i64 z)) hwant), trivial⟩ (((Upd.refl _ _).nx u136).nx u142)
  have hwant : 2 = (openE r ss xs) := (openE_bad (by rw [g100]; simp)).symm
  refine c_skip ?_
  exact hK129 0 _ _ ⟨rfl, rfl, rfl, rfl, rfl, rfl, rfl, rfl, rfl, rfl, (congrArg (fun z => some (Value.int .i64 z)) hwant), trivial⟩ ((Upd.refl _ _).nx u136)
 intro zz w130 u131
 have zu131 := u131.size
 have E145 := E126.nx u131
 refine c_seq fun K146 hK146 => (c_seq fun K147 hK147 => (c_region (t_move rfl rfl rfl (t_cmp rfl rfl rfl rfl rfl (t_nil' (hK147 _ _ (c_condp rfl (fun g106 => ?_) (fun g106 => ?_))))))))
 ·
  obtain ⟨hp1, hp2, hp3⟩ := plan_err hPR g106
  obtain ⟨hv1, hv2⟩ := ver_err hVR g106
  rw [List.length_map] at hp3
  refine c_seq fun K148 hK148 => (c_region (t_move rfl rfl rfl (t_move rfl rfl rfl (t_cmp rfl rfl rfl rfl rfl (t_same 109 (v := .bool true) rfl (congrArg Value.bool (decide_eq_true hp1)) (t_move rfl rfl rfl (t_move rfl rfl rfl (t_move rfl rfl rfl (t_cmp rfl rfl rfl rfl rfl (t_same 113 (v := .bool true) rfl (congrArg Value.bool (decide_eq_true hv1)) (t_pick_t rfl rfl rfl rfl (t_move rfl rfl rfl (t_move rfl rfl rfl (t_len underlying56 rfl rfl rfl rfl (t_cmp rfl rfl rfl rfl rfl (t_same 118 (v := .bool true) rfl (congrArg Value.bool (decide_eq_true (by omega))) (t_pick_t rfl rfl rfl rfl (t_move rfl rfl rfl (t_move rfl rfl rfl (t_cmp rfl rfl rfl rfl rfl (t_same 122 (v := .bool true) rfl (congrArg Value.bool (decide_eq_true hp2)) (t_pick_t rfl rfl rfl rfl (t_move rfl rfl rfl ?_)))))))))))))))))))))))
  refine t_move rfl rfl rfl (t_cmp rfl rfl rfl rfl rfl (t_same 126 (v := .bool true) rfl (congrArg Value.bool (decide_eq_true hv2)) (t_pick_t rfl rfl rfl rfl (t_move rfl rfl rfl (t_call own8 rfl rfl rfl rfl (known_c _) (fun v149 w150 r152 => ?_))))))
  obtain ⟨rfl, u151⟩ := r152
  have zu151 := u151.size
  refine t_pick_t rfl rfl rfl rfl (t_assign rfl rfl rfl (t_nil' (hK148 _ _ (c_ret (f_ret1 (v := .bool true) results5 rfl ?_)))))
  exact ⟨rfl, (E145.nx u151)⟩
 have h0 : (openE r ss xs) = 0 := Decidable.not_not.1 g106
 obtain ⟨hr, h6, hos, h8, hox⟩ := openE_ok h0
 have hc : CrwP r hs al bl ol cl ss w0 := ⟨hr, hl, hsM0, hse.symm, by omega, fun s hs9 => (okSlr_ok (hos s hs9)).2.2.1, fun s hs9 => (okSlr_ok (hos s hs9)).2.2.2⟩
 refine c_skip (hK146 _ _ (c_seq fun K154 hK154 => (c_drawnM follows (fun _ => False) (.look 0 (.look 1 (.look 2 (.look 3 (.look 4 (.look 5 (.act 6 (.act 7 (.act 8 (.act 9 .done .stop) .stop) (.act 8 (.act 7 (.act 9 .done .stop) .stop) .stop)) (.act 8 (.act 6 (.act 7 (.act 9 .done .stop) .stop) .stop) .stop)))))))) (by kernel_rfl) fun w155 u156 => ?_)))
 have zu156 := u156.size
 have E157 := E145.nx u156
 have B158 := (((((B90.kx u96).kx u103).kx u124).kx u131).kx u156)
 refine y_loadN (vs := [.int .i64 r.rest, .int .i64 r.span, .int .i64 r.work, .int .i64 r.week, .int .i64 r.ww]) isAgg23 sizeOf23 rfl rfl rfl (B158.at.sub 0 5) rfl (fun h => h) (y_move rfl rfl rfl (y_field underlying58 rfl sizeOf55 (0) rfl rfl rfl rfl ?_))
 have B159 := (((B120.kx u124).kx u131).kx u156)
 refine y_load isAgg55 rfl rfl rfl (B159.get rfl) (fun h => h) (y_move rfl rfl rfl (y_len underlying54 rfl rfl rfl rfl (s_or ?_ ?_)))
 ·
  refine s_do (t_makeN (enc := encB) (k := 1) (z := .bool false) (bytes := 1) (n := hs.length) false underlying74 (by kernel_rfl) rfl (by decide) (fun _ => rfl) (by decide) rfl rfl rfl rfl rfl (by omega) (fun bm160 w161 ebm160 sbm160 A162 u163 => ?_))
  have zu163 := u163.size
  have E164 := E157.nx u163
  have hlr : (List.replicate hs.length false).length = hs.length := List.length_replicate ..
  have hmk : mbO (List.replicate hs.length false) ss = (ss.map boardP) := mbO_no (by rw [List.length_replicate]; exact hssl.symm) (fun o ho => (List.mem_replicate.1 ho).2)
  refine t_same 137 (v := .slice (some ⟨bm160, 0, none⟩) ((List.replicate hs.length false).length) hs.length) rfl (by rw [hlr]) (s_next ((Upd.refl _ _).nx u163) (s_or ?_ ?_))
  ·
   refine s_do (t_call own31 rfl rfl rfl rfl (rPlan_one (rPlan_d r hs al bl ol cl ss xs ax bx ox cx (List.replicate hs.length false) (some ⟨bm160, 0, none⟩) bm160 0 hs.length _ (hc.ext E164) (hxs.keep E164 (fun _ z => z)) h8 hox (A162.sl (fun _ => rfl)) hlr)) (fun v165 w166 r168 => ?_))
   rcases r168 with ⟨aF, gF, cF, rwF, hvF, hFe, hSF, hMF, hGF, hBF, u167⟩
   have zu167 := u167.size
   rw [hmk] at hvF
   subst hvF
   rw [hmk] at hFe
   have hMF1 : ∀ h ∈ rwF, Sl encI 1 w166 h.ao h.b h.o h.xs := fun h hh => (hMF h hh).1
   refine s_next ((Upd.refl _ _).nx u167) (s_do (t_alloc (cs := [.bool false, .slice none 0 0, .int .i64 0]) zeroValue72 rfl rfl rfl (fun bk170 w171 ebk170 sbk170 B172 u173 => ?_)))
   have zu173 := u173.size
   refine s_next ((Upd.refl _ _).nx u173) (s_do (t_st (vs := [.bool ((asgP r xs (ss.map boardP) 0 0).1.isSome), .slice aF rwF.length cF, .int .i64 ((asgP r xs (ss.map boardP) 0 0).2 : Int)]) sizeOf72 rfl rfl rfl B172 rfl rfl rfl rfl (fun w175 sw175 B177 u176 => ?_)))
   have zu176 := u176.size
   have B177 : Blk w175 bk170 72 [.bool ((asgP r xs (ss.map boardP) 0 0).1.isSome), .slice aF rwF.length cF, .int .i64 ((asgP r xs (ss.map boardP) 0 0).2 : Int)] := B177
   refine s_next ((Upd.refl _ _).next u176 (fun i hi (h : i = bk170) => show w155.heap.size ≤ i ∨ (False) by first | omega | exact .inr h)) (s_nil (hK154 _ _ (c_seq fun K179 hK179 => (c_cut (γ := Nat) (fun zz => [(1, .slice al hs.length cl), (3, .pointer (some ⟨bk2, 0, none⟩)), (5, .pointer (some ⟨bk7, 0, none⟩)), (9, .slice aoG68 xs.length cG68), (10, .slice aoV74 oV74.length cV74), (14, .int .i64 vV), (15, .int .i64 eV), (175, .bool false)]) (fun zz w => Upd (fun _ => False) w175 w) (fun K181 hK181 => ?_) ?_))))
   ·
    refine c_region (t_field underlying72 rfl sizeOf4 (0) rfl rfl rfl rfl (t_load isAgg4 rfl rfl rfl (B177.get rfl) (t_move rfl rfl rfl (t_split 141 rfl (fun g141 => ?_) (fun g141 => ?_)))))
    ·
     obtain ⟨hpl1, hpl2, hpl3⟩ := plan_some hPR h0 g141
     refine t_move rfl rfl rfl (t_cmp rfl rfl rfl rfl rfl (t_same 143 (v := .bool false) rfl (congrArg Value.bool (decide_eq_false (by omega))) (t_move rfl rfl rfl (t_move rfl rfl rfl (t_cmp rfl rfl rfl rfl rfl (t_same 146 (v := .bool false) rfl (congrArg Value.bool (decide_eq_false (by omega))) (t_pick_f rfl rfl rfl rfl (t_move rfl rfl rfl (t_move rfl rfl rfl (t_field underlying72 rfl sizeOf56 (1) rfl rfl rfl rfl (t_load isAgg56 rfl rfl rfl (B177.get rfl) ?_)))))))))))
     have D184 := (((((((((hSP.kE u96).kE u103).kE u124).kE u131).kE u156).kE u163).kE u167).kE u173).keep u176 (fun hp => by have h9 := hSP.lt hp; show ¬ (gP = bk170); omega))
     have D185 := ((hSF.kE u173).keep u176 (fun hp => by have h9 := hSF.lt hp; have h8 := hGF hp; show ¬ (gF = bk170); omega))
     have hrwe : rwP.map HL.xs = rwF.map HL.xs := hFe _ hpl1
     have hrwl : rwP.length = rwF.length := by have h9 := congrArg List.length hrwe; simpa using h9
     have hmF1 : ∀ h ∈ rwF, Sl encI 1 w175 h.ao h.b h.o h.xs ∧ h.xs.length ≤ 1000000 := fun h hh => ⟨(((hMF1 h hh).keep u173 (fun _ z => z)).keep u176 (fun hp => by have h9 := (hMF1 h hh).lt hp; have h8 := hBF h hh hp; show ¬ (h.b = bk170); omega)), (hMF h hh).2⟩
     have hmP1 : ∀ h ∈ rwP, Sl encI 1 w175 h.ao h.b h.o h.xs ∧ h.xs.length ≤ 1000000 := fun h hh => ⟨((((((((((hMP h hh).keep u96 (fun _ z => z)).keep u103 (fun _ z => z)).keep u124 (fun _ z => z)).keep u131 (fun _ z => z)).keep u156 (fun _ z => z)).keep u163 (fun _ z => z)).keep u167 (fun _ z => z)).keep u173 (fun _ z => z)).keep u176 (fun hp => by have h9 := (hMP h hh).lt hp; show ¬ (h.b = bk170); omega)), by
       have h8 : h.xs ∈ rwF.map HL.xs := by rw [← hrwe]; exact List.mem_map.2 ⟨h, hh, rfl⟩
       obtain ⟨y, hy, e9⟩ := List.mem_map.1 h8
       rw [← e9]; exact (hMF y hy).2⟩
     have hrwS := (asg_len hpl1).symm
     rw [List.length_map] at hrwS
     refine t_call own29 rfl rfl rfl rfl ((same_c rwP aP gP 0 cP rwF aF gF 0 cF _ D184 D185 (by omega) hmP1 hmF1).mono fun v w9 h9 => (⟨h9.1.trans (congrArg Value.bool (decide_eq_true hrwe)), h9.2⟩ : v = .bool true ∧ Ext w175 w9)) (fun v186 w187 r189 => ?_)
     obtain ⟨rfl, u188⟩ := r189
     have zu188 := u188.size
     refine t_not rfl rfl rfl (t_pick_f rfl rfl rfl rfl (t_pick_t rfl rfl rfl rfl (t_move rfl rfl rfl (t_field underlying72 rfl sizeOf4 (0) rfl rfl rfl rfl ?_))))
     have B191 := (B177.kx u188)
     refine t_load isAgg4 rfl rfl rfl (B191.get rfl) (t_not rfl rfl rfl (t_same 159 (v := .bool false) rfl (congrArg Value.bool (by rw [g141]; rfl)) (t_move rfl rfl rfl (t_skip rfl rfl rfl (t_skip rfl rfl rfl (t_skip rfl rfl rfl (t_skip rfl rfl rfl (t_skip rfl rfl rfl (t_skip rfl rfl rfl (t_skip rfl rfl rfl (t_skip rfl rfl rfl (t_skip rfl rfl rfl (t_skip rfl rfl rfl (t_skip rfl rfl rfl (t_skip rfl rfl rfl (t_skip rfl rfl rfl (t_pick_f rfl rfl rfl rfl (t_pick_f rfl rfl rfl rfl (t_nil' ?_)))))))))))))))))))
     exact hK181 0 _ _ ⟨rfl, rfl, rfl, rfl, rfl, rfl, rfl, rfl, trivial⟩ ((Upd.refl _ _).nx u188)
    obtain ⟨hpn1, hpn2, hpn3⟩ := plan_none hPR h0 g141
    rw [List.length_map] at hpn3
    refine t_skip rfl rfl rfl (t_skip rfl rfl rfl (t_skip rfl rfl rfl (t_skip rfl rfl rfl (t_skip rfl rfl rfl (t_skip rfl rfl rfl (t_skip rfl rfl rfl (t_skip rfl rfl rfl (t_skip rfl rfl rfl (t_skip rfl rfl rfl (t_skip rfl rfl rfl (t_skip rfl rfl rfl (t_skip rfl rfl rfl (t_pick_f rfl rfl rfl rfl (t_move rfl rfl rfl (t_field underlying72 rfl sizeOf4 (0) rfl rfl rfl rfl (t_load isAgg4 rfl rfl rfl (B177.get rfl) (t_not rfl rfl rfl (t_same 159 (v := .bool true) rfl (congrArg Value.bool (by rw [g141]; rfl)) (t_move rfl rfl rfl (t_move rfl rfl rfl (t_cmp rfl rfl rfl rfl rfl (t_same 162 (v := .bool false) rfl (congrArg Value.bool (decide_eq_false (by omega))) (t_move rfl rfl rfl ?_)))))))))))))))))))))))
    refine t_move rfl rfl rfl (t_field underlying72 rfl sizeOf3 (2) rfl rfl rfl rfl (t_load isAgg3 rfl rfl rfl (B177.get rfl) (t_cmp rfl rfl rfl rfl rfl (t_same 167 (v := .bool false) rfl (congrArg Value.bool (decide_eq_false (fun h => h hpn1))) (t_pick_f rfl rfl rfl rfl (t_move rfl rfl rfl (t_move rfl rfl rfl (t_len underlying56 rfl rfl rfl rfl (t_cmp rfl rfl rfl rfl rfl (t_same 172 (v := .bool false) rfl (congrArg Value.bool (decide_eq_false (by omega))) (t_pick_f rfl rfl rfl rfl (t_pick_t rfl rfl rfl rfl (t_pick_f rfl rfl rfl rfl (t_nil' ?_))))))))))))))
    exact hK181 0 _ _ ⟨rfl, rfl, rfl, rfl, rfl, rfl, rfl, rfl, trivial⟩ (Upd.refl _ _)
   intro zz w182 u183
   have zu183 := u183.size
   have E192 := (((E164.nx u167).nx u173).next u176 (fun i hi h => by omega)).nx u183
   refine c_cond_f rfl (c_skip (hK179 _ _ (c_seq fun K193 hK193 => (c_seq fun K194 hK194 => (c_region (t_move rfl rfl rfl (t_len underlying56 rfl rfl rfl rfl (t_move rfl rfl rfl (t_len underlying55 rfl rfl rfl rfl (t_cmp rfl rfl rfl rfl rfl (t_nil' (hK194 _ _ (c_condp rfl (fun g180 => ?_) (fun g180 => ?_))))))))))))))
   ·
    obtain ⟨hv1, hv2⟩ := ver_form hVR h0 (by rw [List.length_map]; omega)
    refine c_seq fun K195 hK195 => (c_region (t_move rfl rfl rfl (t_cmp rfl rfl rfl rfl rfl (t_same 182 (v := .bool true) rfl (congrArg Value.bool (decide_eq_true hv2)) (t_move rfl rfl rfl (t_move rfl rfl rfl (t_cmp rfl rfl rfl rfl rfl (t_same 185 (v := .bool true) rfl (congrArg Value.bool (decide_eq_true hv1)) (t_pick_t rfl rfl rfl rfl (t_move rfl rfl rfl (t_call own8 rfl rfl rfl rfl (known_c _) (fun v196 w197 r199 => ?_))))))))))))
    obtain ⟨rfl, u198⟩ := r199
    have zu198 := u198.size
    refine t_pick_t rfl rfl rfl rfl (t_assign rfl rfl rfl (t_nil' (hK195 _ _ (c_ret (f_ret1 (v := .bool true) results5 rfl ?_)))))
    exact ⟨rfl, (E192.nx u198)⟩
   have hVl : oV74.length = xs.length := by omega
   refine c_skip (hK193 _ _ (c_seq fun K201 hK201 => (c_seq fun K202 hK202 => (c_region (t_assign rfl rfl rfl (t_nil' (hK202 _ _ (c_block (c_loop (γ := Nat) (fun i9 => [(1, .slice al hs.length cl), (3, .pointer (some ⟨bk2, 0, none⟩)), (5, .pointer (some ⟨bk7, 0, none⟩)), (10, .slice aoV74 oV74.length cV74), (14, .int .i64 vV), (15, .int .i64 eV), (19, .int .i64 (i9 : Int))]) (fun i9 w => Upd (fun _ => False) w182 w ∧ (i9 ≤ oV74.length) ∧ (∀ k, k < i9 → ∀ j, j < (nth oV74 k).xs.length → 0 ≤ nth (nth oV74 k).xs j ∧ nth (nth oV74 k).xs j < (hs.length : Int))) (fun i9 => oV74.length - i9) 0 ⟨rfl, rfl, rfl, rfl, rfl, rfl, rfl, trivial⟩ ⟨Upd.refl _ _, (Nat.zero_le _), (fun k hk => absurd hk (Nat.not_lt_zero _))⟩ ?_)))))))))
   intro i9 w204 hW K203 hK203
   obtain ⟨u205, I206, I207⟩ := hW
   have zu205 := u205.size
   have E208 := E192.nx u205
   have hi9 := I206; clear I206
   have hgd := I207; clear I207
   refine c_seq fun K209 hK209 => (c_seq fun K210 hK210 => (c_region (t_move rfl rfl rfl (t_move rfl rfl rfl (t_len underlying56 rfl rfl rfl rfl (t_cmp rfl rfl rfl rfl rfl (t_nil' (hK210 _ _ (c_condp rfl (fun g193 => ?_) (fun g193 => ?_))))))))))
   ·
    refine c_skip (hK209 _ _ (c_seq fun K211 hK211 => (c_block (c_seq fun K212 hK212 => (c_region (t_assign rfl rfl rfl (t_nil' (hK212 _ _ (c_block ?_)))))))))
    have hxe9 : nth (oV74.map HL.xs) i9 = nth (rows.map HL.xs) i9 := by rw [hmV]
    rw [nth_map2 _ (by omega), nth_map2 _ (by omega)] at hxe9
    have hno9 := hno i9 (by omega)
    rw [← hxe9] at hno9
    refine c_loop (γ := Nat) (fun k2 => [(1, .slice al hs.length cl), (3, .pointer (some ⟨bk2, 0, none⟩)), (5, .pointer (some ⟨bk7, 0, none⟩)), (10, .slice aoV74 oV74.length cV74), (14, .int .i64 vV), (15, .int .i64 eV), (19, .int .i64 (i9 : Int)), (20, .int .i64 (k2 : Int))]) (fun k2 w => Upd (fun _ => False) w204 w ∧ (k2 ≤ (nth oV74 i9).xs.length) ∧ (∀ j, j < k2 → 0 ≤ nth (nth oV74 i9).xs j ∧ nth (nth oV74 i9).xs j < (hs.length : Int))) (fun k2 => (nth oV74 i9).xs.length - k2) 0 ⟨rfl, rfl, rfl, rfl, rfl, rfl, rfl, rfl, trivial⟩ ⟨Upd.refl _ _, (Nat.zero_le _), (fun k hk => absurd hk (Nat.not_lt_zero _))⟩ ?_
    intro k2 w214 hW K213 hK213
    obtain ⟨u215, I216, I217⟩ := hW
    have zu215 := u215.size
    have hk2 := I216; clear I216
    have hg2 := I217; clear I217
    refine c_seq fun K219 hK219 => (c_seq fun K220 hK220 => (c_region (t_move rfl rfl rfl (t_move rfl rfl rfl (t_move rfl rfl rfl ?_)))))
    have D221 := ((((((((((D121.kE u124).kE u131).kE u156).kE u163).kE u167).kE u173).keep u176 (fun hb => show ¬ (gV74 = bk170) by first | omega | assumption)).kE u183).kE u205).kE u215)
    have i222 : i9 < oV74.length := (by omega)
    refine t_index (j := i9) underlying56 sizeOf60 rfl rfl rfl rfl ((D221.sl (fun _ => rfl)).addr (by omega)) rfl i222 (t_load isAgg60 rfl rfl rfl (((D221.sl (fun _ => rfl)).at_ i9 (by omega)) 0 _ rfl) (t_len underlying60 rfl rfl rfl rfl (t_cmp rfl rfl rfl rfl rfl (t_nil' (hK220 _ _ (c_condp rfl (fun g202 => ?_) (fun g202 => ?_)))))))
    ·
     refine c_skip (hK219 _ _ (c_seq fun K223 hK223 => (c_block (c_seq fun K224 hK224 => (c_region (t_move rfl rfl rfl (t_move rfl rfl rfl ?_)))))))
     have i225 : i9 < oV74.length := (by omega)
     refine t_index (j := i9) underlying56 sizeOf60 rfl rfl rfl rfl ((D221.sl (fun _ => rfl)).addr (by omega)) rfl i225 (t_load isAgg60 rfl rfl rfl (((D221.sl (fun _ => rfl)).at_ i9 (by omega)) 0 _ rfl) (t_move rfl rfl rfl ?_))
     have i226 : k2 < (nth oV74 i9).xs.length := (by omega)
     refine t_index (j := k2) underlying60 sizeOf3 rfl rfl rfl rfl (((((((((((((((hsV74 (nth oV74 i9) (nth_mem (by omega))).sl.1.keep u86 (fun _ z => z)).keep u96 (fun _ z => z)).keep u103 (fun _ z => z)).keep u124 (fun _ z => z)).keep u131 (fun _ z => z)).keep u156 (fun _ z => z)).keep u163 (fun _ z => z)).keep u167 (fun _ z => z)).keep u173 (fun _ z => z)).keep u176 (fun hp => by have h9 := (hsV74 (nth oV74 i9) (nth_mem (by omega))).sl.1.lt hp; show ¬ ((nth oV74 i9).b = bk170); omega)).keep u183 (fun _ z => z)).keep u205 (fun _ z => z)).keep u215 (fun _ z => z)).addr (by omega)) rfl i226 (t_load isAgg3 rfl rfl rfl ((((((((((((((((hsV74 (nth oV74 i9) (nth_mem (by omega))).sl.1.keep u86 (fun _ z => z)).keep u96 (fun _ z => z)).keep u103 (fun _ z => z)).keep u124 (fun _ z => z)).keep u131 (fun _ z => z)).keep u156 (fun _ z => z)).keep u163 (fun _ z => z)).keep u167 (fun _ z => z)).keep u173 (fun _ z => z)).keep u176 (fun hp => by have h9 := (hsV74 (nth oV74 i9) (nth_mem (by omega))).sl.1.lt hp; show ¬ ((nth oV74 i9).b = bk170); omega)).keep u183 (fun _ z => z)).keep u205 (fun _ z => z)).keep u215 (fun _ z => z)).at_ k2 (by omega)) 0 _ rfl) (t_assign rfl rfl rfl (t_nil' (hK224 _ _ (c_cut (γ := Bool) (fun q => [(1, .slice al hs.length cl), (3, .pointer (some ⟨bk2, 0, none⟩)), (5, .pointer (some ⟨bk7, 0, none⟩)), (10, .slice aoV74 oV74.length cV74), (14, .int .i64 vV), (15, .int .i64 eV), (19, .int .i64 (i9 : Int)), (20, .int .i64 (k2 : Int)), (219, .bool q)]) (fun q w => Upd (fun _ => False) w214 w ∧ (q = true ↔ ¬ (0 ≤ (nth (nth oV74 i9).xs k2) ∧ (nth (nth oV74 i9).xs k2) < (hs.length : Int)))) (fun K228 hK228 => ?_) ?_)))))
     ·
      refine c_region (t_move rfl rfl rfl (t_cmp rfl rfl rfl rfl rfl (t_move rfl rfl rfl (t_splitp 214 rfl (fun g214 => ?_) (fun g214 => ?_)))))
      ·
       refine t_skip rfl rfl rfl (t_skip rfl rfl rfl (t_skip rfl rfl rfl (t_skip rfl rfl rfl (t_pick_t rfl rfl rfl rfl (t_nil' ?_)))))
       exact hK228 true _ _ ⟨rfl, rfl, rfl, rfl, rfl, rfl, rfl, rfl, rfl, trivial⟩ ⟨(Upd.refl _ _), ⟨fun _ => by omega, fun _ => rfl⟩⟩
      refine t_move rfl rfl rfl (t_move rfl rfl rfl (t_len underlying54 rfl rfl rfl rfl (t_cmp rfl rfl rfl rfl rfl (t_pick_f rfl rfl rfl rfl (t_nil' ?_)))))
      exact hK228 (decide ((hs.length : Int) ≤ (nth ((nth oV74 i9).xs) k2))) _ _ ⟨rfl, rfl, rfl, rfl, rfl, rfl, rfl, rfl, rfl, trivial⟩ ⟨(Upd.refl _ _), (by rw [decide_eq_true_eq]; omega)⟩
     intro q w229 hW
     obtain ⟨u230, I231⟩ := hW
     have zu230 := u230.size
     have hq := I231; clear I231
     refine c_cond rfl (fun g219 => ?_) (fun g219 => ?_)
     ·
      obtain ⟨hv1, hv2⟩ := ver_arg hVR h0 (by rw [List.length_map]; exact hVl) (bad_of (k := i9) (by omega) (nth_mem (i := k2) (by omega)) (by rw [hssl]; exact hq.1 g219))
      refine c_seq fun K233 hK233 => (c_region (t_move rfl rfl rfl (t_cmp rfl rfl rfl rfl rfl (t_same 221 (v := .bool true) rfl (congrArg Value.bool (decide_eq_true hv2)) (t_move rfl rfl rfl (t_move rfl rfl rfl (t_cmp rfl rfl rfl rfl rfl (t_same 224 (v := .bool true) rfl (congrArg Value.bool (decide_eq_true hv1)) (t_pick_t rfl rfl rfl rfl (t_move rfl rfl rfl (t_call own8 rfl rfl rfl rfl (known_c _) (fun v234 w235 r237 => ?_))))))))))))
      obtain ⟨rfl, u236⟩ := r237
      have zu236 := u236.size
      refine t_pick_t rfl rfl rfl rfl (t_assign rfl rfl rfl (t_nil' (hK233 _ _ (c_ret (f_ret1 (v := .bool true) results5 rfl ?_)))))
      exact ⟨rfl, (((E208.nx u215).nx u230).nx u236)⟩
     have hgn := Decidable.not_not.1 (fun h => by rw [hq.2 h] at g219; cases g219)
     refine c_skip (hK223 _ _ (c_region (t_move rfl rfl rfl (t_ari rfl rfl rfl rfl rfl (by omega) (t_assign rfl rfl rfl (t_nil' ?_))))))
     exact hK213 (k2 + 1) _ _ (by omega) ⟨rfl, rfl, rfl, rfl, rfl, rfl, rfl, rfl, trivial⟩ ⟨(u215.nx u230), (by omega), (fun j hj => by
       rcases Nat.lt_or_ge j k2 with q | q
       · exact hg2 j q
       · rw [show j = k2 by omega]; exact hgn)⟩
    refine c_exit (hK211 _ _ (c_region (t_move rfl rfl rfl (t_ari rfl rfl rfl rfl rfl (by omega) (t_assign rfl rfl rfl (t_nil' ?_))))))
    exact hK203 (i9 + 1) _ _ (by omega) ⟨rfl, rfl, rfl, rfl, rfl, rfl, rfl, trivial⟩ ⟨(u205.nx u215), (by omega), (fun k9 hk9 j hj => by
      rcases Nat.lt_or_ge k9 i9 with q | q
      · exact hgd k9 q j hj
      · obtain rfl : k9 = i9 := by omega
        exact hg2 j (by omega))⟩
   have hbad : (oV74.map HL.xs).any (badRow ss.length) = false := bad_no (fun k9 hk9 => by rw [hssl]; exact hgd k9 (by omega))
   obtain ⟨hv1, hv2⟩ := ver_good hVR h0 (by rw [List.length_map]; exact hVl) hbad
   have hinr : ∀ h ∈ rows, ∀ i ∈ h.xs, 0 ≤ i ∧ i < (hs.length : Int) := fun h hh i hi => by
     rw [hmV, hssl] at hbad
     exact bad_in hbad _ (List.mem_map.2 ⟨h, hh, rfl⟩) i hi
   rw [hmV] at hv2
   refine c_exit (hK201 _ _ (c_seq fun K239 hK239 => (c_region (t_move rfl rfl rfl (t_cmp rfl rfl rfl rfl rfl (t_same 230 (v := .bool true) rfl (congrArg Value.bool (decide_eq_true hv1)) (t_move rfl rfl rfl (t_move rfl rfl rfl ?_))))))))
   have B240 := (((((((((((B90.kx u96).kx u103).kx u124).kx u131).kx u156).kx u163).kx u167).kx u173).keep u176 (by omega)).kx u183).kx u205)
   refine t_loadN (vs := [.int .i64 r.rest, .int .i64 r.span, .int .i64 r.work, .int .i64 r.week, .int .i64 r.ww]) isAgg23 sizeOf23 rfl rfl rfl (B240.at.sub 0 5) rfl (t_move rfl rfl rfl (t_field underlying58 rfl sizeOf55 (0) rfl rfl rfl rfl ?_))
   have B241 := (((((((((B120.kx u124).kx u131).kx u156).kx u163).kx u167).kx u173).keep u176 (by omega)).kx u183).kx u205)
   refine t_load isAgg55 rfl rfl rfl (B241.get rfl) (t_field underlying58 rfl sizeOf56 (1) rfl rfl rfl rfl (t_load isAgg56 rfl rfl rfl (B241.get rfl) (t_call own32 rfl rfl rfl rfl (rVerify_c r hs al bl ol cl ss xs ax bx ox cx rows ar br or_ cr _ (hc.ext E208) (hxs.keep E208 (fun _ z => z)) h8 hox (hr9.keep E208 (fun _ z => z)) (by omega) (fun h hh => ⟨(hrm0 h hh).1.keep E208 (fun _ z => z), (hrm0 h hh).2⟩) hinr (by omega) hcx hcr) (fun v242 w243 r245 => ?_))))
   obtain ⟨rfl, u244⟩ := r245
   have zu244 := u244.size
   refine t_cmp rfl rfl rfl rfl rfl (t_same 240 (v := .bool true) rfl (congrArg Value.bool (decide_eq_true hv2)) (t_pick_t rfl rfl rfl rfl (t_move rfl rfl rfl (t_call own8 rfl rfl rfl rfl (known_c _) (fun v247 w248 r250 => ?_)))))
   obtain ⟨rfl, u249⟩ := r250
   have zu249 := u249.size
   refine t_pick_t rfl rfl rfl rfl (t_assign rfl rfl rfl (t_nil' (hK239 _ _ (c_ret (f_ret1 (v := .bool true) results5 rfl ?_)))))
   exact ⟨rfl, ((E208.nx u244).nx u249)⟩
  refine s_do (t_alloc (cs := [.bool false, .slice none 0 0, .int .i64 0]) zeroValue72 rfl rfl rfl (fun bk252 w253 ebk252 sbk252 B254 u255 => ?_))
  have zu255 := u255.size
  have E256 := E164.nx u255
  refine s_next ((Upd.refl _ _).nx u255) (s_do ?_)
  have D257 := (A162.kE u255)
  refine t_call own31 rfl rfl rfl rfl (rPlan_one (rPlan_d r hs al bl ol cl ss xs ax bx ox cx (List.replicate hs.length false) (some ⟨bm160, 0, none⟩) bm160 0 hs.length _ (hc.ext E256) (hxs.keep E256 (fun _ z => z)) h8 hox (D257.sl (fun _ => rfl)) hlr)) (fun v258 w259 r261 => ?_)
  rcases r261 with ⟨aF, gF, cF, rwF, hvF, hFe, hSF, hMF, hGF, hBF, u260⟩
  have zu260 := u260.size
  rw [hmk] at hvF
  subst hvF
  rw [hmk] at hFe
  have hMF1 : ∀ h ∈ rwF, Sl encI 1 w259 h.ao h.b h.o h.xs := fun h hh => (hMF h hh).1
  refine s_next ((Upd.refl _ _).nx u260) (s_do ?_)
  have B263 := (B254.kx u260)
  refine t_st (vs := [.bool ((asgP r xs (ss.map boardP) 0 0).1.isSome), .slice aF rwF.length cF, .int .i64 ((asgP r xs (ss.map boardP) 0 0).2 : Int)]) sizeOf72 rfl rfl rfl B263 rfl rfl rfl rfl (fun w264 sw264 B266 u265 => ?_)
  have zu265 := u265.size
  have B266 : Blk w264 bk252 72 [.bool ((asgP r xs (ss.map boardP) 0 0).1.isSome), .slice aF rwF.length cF, .int .i64 ((asgP r xs (ss.map boardP) 0 0).2 : Int)] := B266
  refine s_next ((Upd.refl _ _).next u265 (fun i hi (h : i = bk252) => show w155.heap.size ≤ i ∨ (False) by first | omega | exact .inr h)) (s_nil (hK154 _ _ (c_seq fun K268 hK268 => (c_cut (γ := Nat) (fun zz => [(1, .slice al hs.length cl), (3, .pointer (some ⟨bk2, 0, none⟩)), (5, .pointer (some ⟨bk7, 0, none⟩)), (9, .slice aoG68 xs.length cG68), (10, .slice aoV74 oV74.length cV74), (14, .int .i64 vV), (15, .int .i64 eV), (175, .bool false)]) (fun zz w => Upd (fun _ => False) w264 w) (fun K270 hK270 => ?_) ?_))))
  ·
   refine c_region (t_field underlying72 rfl sizeOf4 (0) rfl rfl rfl rfl (t_load isAgg4 rfl rfl rfl (B266.get rfl) (t_move rfl rfl rfl (t_split 141 rfl (fun g141 => ?_) (fun g141 => ?_)))))
   ·
    obtain ⟨hpl1, hpl2, hpl3⟩ := plan_some hPR h0 g141
    refine t_move rfl rfl rfl (t_cmp rfl rfl rfl rfl rfl (t_same 143 (v := .bool false) rfl (congrArg Value.bool (decide_eq_false (by omega))) (t_move rfl rfl rfl (t_move rfl rfl rfl (t_cmp rfl rfl rfl rfl rfl (t_same 146 (v := .bool false) rfl (congrArg Value.bool (decide_eq_false (by omega))) (t_pick_f rfl rfl rfl rfl (t_move rfl rfl rfl (t_move rfl rfl rfl (t_field underlying72 rfl sizeOf56 (1) rfl rfl rfl rfl (t_load isAgg56 rfl rfl rfl (B266.get rfl) ?_)))))))))))
    have D273 := (((((((((hSP.kE u96).kE u103).kE u124).kE u131).kE u156).kE u163).kE u255).kE u260).keep u265 (fun hp => by have h9 := hSP.lt hp; show ¬ (gP = bk252); omega))
    have D274 := (hSF.keep u265 (fun hp => by have h9 := hSF.lt hp; have h8 := hGF hp; show ¬ (gF = bk252); omega))
    have hrwe : rwP.map HL.xs = rwF.map HL.xs := hFe _ hpl1
    have hrwl : rwP.length = rwF.length := by have h9 := congrArg List.length hrwe; simpa using h9
    have hmF1 : ∀ h ∈ rwF, Sl encI 1 w264 h.ao h.b h.o h.xs ∧ h.xs.length ≤ 1000000 := fun h hh => ⟨((hMF1 h hh).keep u265 (fun hp => by have h9 := (hMF1 h hh).lt hp; have h8 := hBF h hh hp; show ¬ (h.b = bk252); omega)), (hMF h hh).2⟩
    have hmP1 : ∀ h ∈ rwP, Sl encI 1 w264 h.ao h.b h.o h.xs ∧ h.xs.length ≤ 1000000 := fun h hh => ⟨((((((((((hMP h hh).keep u96 (fun _ z => z)).keep u103 (fun _ z => z)).keep u124 (fun _ z => z)).keep u131 (fun _ z => z)).keep u156 (fun _ z => z)).keep u163 (fun _ z => z)).keep u255 (fun _ z => z)).keep u260 (fun _ z => z)).keep u265 (fun hp => by have h9 := (hMP h hh).lt hp; show ¬ (h.b = bk252); omega)), by
      have h8 : h.xs ∈ rwF.map HL.xs := by rw [← hrwe]; exact List.mem_map.2 ⟨h, hh, rfl⟩
      obtain ⟨y, hy, e9⟩ := List.mem_map.1 h8
      rw [← e9]; exact (hMF y hy).2⟩
    have hrwS := (asg_len hpl1).symm
    rw [List.length_map] at hrwS
    refine t_call own29 rfl rfl rfl rfl ((same_c rwP aP gP 0 cP rwF aF gF 0 cF _ D273 D274 (by omega) hmP1 hmF1).mono fun v w9 h9 => (⟨h9.1.trans (congrArg Value.bool (decide_eq_true hrwe)), h9.2⟩ : v = .bool true ∧ Ext w264 w9)) (fun v275 w276 r278 => ?_)
    obtain ⟨rfl, u277⟩ := r278
    have zu277 := u277.size
    refine t_not rfl rfl rfl (t_pick_f rfl rfl rfl rfl (t_pick_t rfl rfl rfl rfl (t_move rfl rfl rfl (t_field underlying72 rfl sizeOf4 (0) rfl rfl rfl rfl ?_))))
    have B280 := (B266.kx u277)
    refine t_load isAgg4 rfl rfl rfl (B280.get rfl) (t_not rfl rfl rfl (t_same 159 (v := .bool false) rfl (congrArg Value.bool (by rw [g141]; rfl)) (t_move rfl rfl rfl (t_skip rfl rfl rfl (t_skip rfl rfl rfl (t_skip rfl rfl rfl (t_skip rfl rfl rfl (t_skip rfl rfl rfl (t_skip rfl rfl rfl (t_skip rfl rfl rfl (t_skip rfl rfl rfl (t_skip rfl rfl rfl (t_skip rfl rfl rfl (t_skip rfl rfl rfl (t_skip rfl rfl rfl (t_skip rfl rfl rfl (t_pick_f rfl rfl rfl rfl (t_pick_f rfl rfl rfl rfl (t_nil' ?_)))))))))))))))))))
    exact hK270 0 _ _ ⟨rfl, rfl, rfl, rfl, rfl, rfl, rfl, rfl, trivial⟩ ((Upd.refl _ _).nx u277)
   obtain ⟨hpn1, hpn2, hpn3⟩ := plan_none hPR h0 g141
   rw [List.length_map] at hpn3
   refine t_skip rfl rfl rfl (t_skip rfl rfl rfl (t_skip rfl rfl rfl (t_skip rfl rfl rfl (t_skip rfl rfl rfl (t_skip rfl rfl rfl (t_skip rfl rfl rfl (t_skip rfl rfl rfl (t_skip rfl rfl rfl (t_skip rfl rfl rfl (t_skip rfl rfl rfl (t_skip rfl rfl rfl (t_skip rfl rfl rfl (t_pick_f rfl rfl rfl rfl (t_move rfl rfl rfl (t_field underlying72 rfl sizeOf4 (0) rfl rfl rfl rfl (t_load isAgg4 rfl rfl rfl (B266.get rfl) (t_not rfl rfl rfl (t_same 159 (v := .bool true) rfl (congrArg Value.bool (by rw [g141]; rfl)) (t_move rfl rfl rfl (t_move rfl rfl rfl (t_cmp rfl rfl rfl rfl rfl (t_same 162 (v := .bool false) rfl (congrArg Value.bool (decide_eq_false (by omega))) (t_move rfl rfl rfl ?_)))))))))))))))))))))))
   refine t_move rfl rfl rfl (t_field underlying72 rfl sizeOf3 (2) rfl rfl rfl rfl (t_load isAgg3 rfl rfl rfl (B266.get rfl) (t_cmp rfl rfl rfl rfl rfl (t_same 167 (v := .bool false) rfl (congrArg Value.bool (decide_eq_false (fun h => h hpn1))) (t_pick_f rfl rfl rfl rfl (t_move rfl rfl rfl (t_move rfl rfl rfl (t_len underlying56 rfl rfl rfl rfl (t_cmp rfl rfl rfl rfl rfl (t_same 172 (v := .bool false) rfl (congrArg Value.bool (decide_eq_false (by omega))) (t_pick_f rfl rfl rfl rfl (t_pick_t rfl rfl rfl rfl (t_pick_f rfl rfl rfl rfl (t_nil' ?_))))))))))))))
   exact hK270 0 _ _ ⟨rfl, rfl, rfl, rfl, rfl, rfl, rfl, rfl, trivial⟩ (Upd.refl _ _)
  intro zz w271 u272
  have zu272 := u272.size
  have E281 := ((E256.nx u260).next u265 (fun i hi h => by omega)).nx u272
  refine c_cond_f rfl (c_skip (hK268 _ _ (c_seq fun K282 hK282 => (c_seq fun K283 hK283 => (c_region (t_move rfl rfl rfl (t_len underlying56 rfl rfl rfl rfl (t_move rfl rfl rfl (t_len underlying55 rfl rfl rfl rfl (t_cmp rfl rfl rfl rfl rfl (t_nil' (hK283 _ _ (c_condp rfl (fun g180 => ?_) (fun g180 => ?_))))))))))))))
  ·
   obtain ⟨hv1, hv2⟩ := ver_form hVR h0 (by rw [List.length_map]; omega)
   refine c_seq fun K284 hK284 => (c_region (t_move rfl rfl rfl (t_cmp rfl rfl rfl rfl rfl (t_same 182 (v := .bool true) rfl (congrArg Value.bool (decide_eq_true hv2)) (t_move rfl rfl rfl (t_move rfl rfl rfl (t_cmp rfl rfl rfl rfl rfl (t_same 185 (v := .bool true) rfl (congrArg Value.bool (decide_eq_true hv1)) (t_pick_t rfl rfl rfl rfl (t_move rfl rfl rfl (t_call own8 rfl rfl rfl rfl (known_c _) (fun v285 w286 r288 => ?_))))))))))))
   obtain ⟨rfl, u287⟩ := r288
   have zu287 := u287.size
   refine t_pick_t rfl rfl rfl rfl (t_assign rfl rfl rfl (t_nil' (hK284 _ _ (c_ret (f_ret1 (v := .bool true) results5 rfl ?_)))))
   exact ⟨rfl, (E281.nx u287)⟩
  have hVl : oV74.length = xs.length := by omega
  refine c_skip (hK282 _ _ (c_seq fun K290 hK290 => (c_seq fun K291 hK291 => (c_region (t_assign rfl rfl rfl (t_nil' (hK291 _ _ (c_block (c_loop (γ := Nat) (fun i9 => [(1, .slice al hs.length cl), (3, .pointer (some ⟨bk2, 0, none⟩)), (5, .pointer (some ⟨bk7, 0, none⟩)), (10, .slice aoV74 oV74.length cV74), (14, .int .i64 vV), (15, .int .i64 eV), (19, .int .i64 (i9 : Int))]) (fun i9 w => Upd (fun _ => False) w271 w ∧ (i9 ≤ oV74.length) ∧ (∀ k, k < i9 → ∀ j, j < (nth oV74 k).xs.length → 0 ≤ nth (nth oV74 k).xs j ∧ nth (nth oV74 k).xs j < (hs.length : Int))) (fun i9 => oV74.length - i9) 0 ⟨rfl, rfl, rfl, rfl, rfl, rfl, rfl, trivial⟩ ⟨Upd.refl _ _, (Nat.zero_le _), (fun k hk => absurd hk (Nat.not_lt_zero _))⟩ ?_)))))))))
  intro i9 w293 hW K292 hK292
  obtain ⟨u294, I295, I296⟩ := hW
  have zu294 := u294.size
  have E297 := E281.nx u294
  have hi9 := I295; clear I295
  have hgd := I296; clear I296
  refine c_seq fun K298 hK298 => (c_seq fun K299 hK299 => (c_region (t_move rfl rfl rfl (t_move rfl rfl rfl (t_len underlying56 rfl rfl rfl rfl (t_cmp rfl rfl rfl rfl rfl (t_nil' (hK299 _ _ (c_condp rfl (fun g193 => ?_) (fun g193 => ?_))))))))))
  ·
   refine c_skip (hK298 _ _ (c_seq fun K300 hK300 => (c_block (c_seq fun K301 hK301 => (c_region (t_assign rfl rfl rfl (t_nil' (hK301 _ _ (c_block ?_)))))))))
   have hxe9 : nth (oV74.map HL.xs) i9 = nth (rows.map HL.xs) i9 := by rw [hmV]
   rw [nth_map2 _ (by omega), nth_map2 _ (by omega)] at hxe9
   have hno9 := hno i9 (by omega)
   rw [← hxe9] at hno9
   refine c_loop (γ := Nat) (fun k2 => [(1, .slice al hs.length cl), (3, .pointer (some ⟨bk2, 0, none⟩)), (5, .pointer (some ⟨bk7, 0, none⟩)), (10, .slice aoV74 oV74.length cV74), (14, .int .i64 vV), (15, .int .i64 eV), (19, .int .i64 (i9 : Int)), (20, .int .i64 (k2 : Int))]) (fun k2 w => Upd (fun _ => False) w293 w ∧ (k2 ≤ (nth oV74 i9).xs.length) ∧ (∀ j, j < k2 → 0 ≤ nth (nth oV74 i9).xs j ∧ nth (nth oV74 i9).xs j < (hs.length : Int))) (fun k2 => (nth oV74 i9).xs.length - k2) 0 ⟨rfl, rfl, rfl, rfl, rfl, rfl, rfl, rfl, trivial⟩ ⟨Upd.refl _ _, (Nat.zero_le _), (fun k hk => absurd hk (Nat.not_lt_zero _))⟩ ?_
   intro k2 w303 hW K302 hK302
   obtain ⟨u304, I305, I306⟩ := hW
   have zu304 := u304.size
   have hk2 := I305; clear I305
   have hg2 := I306; clear I306
   refine c_seq fun K308 hK308 => (c_seq fun K309 hK309 => (c_region (t_move rfl rfl rfl (t_move rfl rfl rfl (t_move rfl rfl rfl ?_)))))
   have D310 := ((((((((((D121.kE u124).kE u131).kE u156).kE u163).kE u255).kE u260).keep u265 (fun hb => show ¬ (gV74 = bk252) by first | omega | assumption)).kE u272).kE u294).kE u304)
   have i311 : i9 < oV74.length := (by omega)
   refine t_index (j := i9) underlying56 sizeOf60 rfl rfl rfl rfl ((D310.sl (fun _ => rfl)).addr (by omega)) rfl i311 (t_load isAgg60 rfl rfl rfl (((D310.sl (fun _ => rfl)).at_ i9 (by omega)) 0 _ rfl) (t_len underlying60 rfl rfl rfl rfl (t_cmp rfl rfl rfl rfl rfl (t_nil' (hK309 _ _ (c_condp rfl (fun g202 => ?_) (fun g202 => ?_)))))))
   ·
    refine c_skip (hK308 _ _ (c_seq fun K312 hK312 => (c_block (c_seq fun K313 hK313 => (c_region (t_move rfl rfl rfl (t_move rfl rfl rfl ?_)))))))
    have i314 : i9 < oV74.length := (by omega)
    refine t_index (j := i9) underlying56 sizeOf60 rfl rfl rfl rfl ((D310.sl (fun _ => rfl)).addr (by omega)) rfl i314 (t_load isAgg60 rfl rfl rfl (((D310.sl (fun _ => rfl)).at_ i9 (by omega)) 0 _ rfl) (t_move rfl rfl rfl ?_))
    have i315 : k2 < (nth oV74 i9).xs.length := (by omega)
    refine t_index (j := k2) underlying60 sizeOf3 rfl rfl rfl rfl (((((((((((((((hsV74 (nth oV74 i9) (nth_mem (by omega))).sl.1.keep u86 (fun _ z => z)).keep u96 (fun _ z => z)).keep u103 (fun _ z => z)).keep u124 (fun _ z => z)).keep u131 (fun _ z => z)).keep u156 (fun _ z => z)).keep u163 (fun _ z => z)).keep u255 (fun _ z => z)).keep u260 (fun _ z => z)).keep u265 (fun hp => by have h9 := (hsV74 (nth oV74 i9) (nth_mem (by omega))).sl.1.lt hp; show ¬ ((nth oV74 i9).b = bk252); omega)).keep u272 (fun _ z => z)).keep u294 (fun _ z => z)).keep u304 (fun _ z => z)).addr (by omega)) rfl i315 (t_load isAgg3 rfl rfl rfl ((((((((((((((((hsV74 (nth oV74 i9) (nth_mem (by omega))).sl.1.keep u86 (fun _ z => z)).keep u96 (fun _ z => z)).keep u103 (fun _ z => z)).keep u124 (fun _ z => z)).keep u131 (fun _ z => z)).keep u156 (fun _ z => z)).keep u163 (fun _ z => z)).keep u255 (fun _ z => z)).keep u260 (fun _ z => z)).keep u265 (fun hp => by have h9 := (hsV74 (nth oV74 i9) (nth_mem (by omega))).sl.1.lt hp; show ¬ ((nth oV74 i9).b = bk252); omega)).keep u272 (fun _ z => z)).keep u294 (fun _ z => z)).keep u304 (fun _ z => z)).at_ k2 (by omega)) 0 _ rfl) (t_assign rfl rfl rfl (t_nil' (hK313 _ _ (c_cut (γ := Bool) (fun q => [(1, .slice al hs.length cl), (3, .pointer (some ⟨bk2, 0, none⟩)), (5, .pointer (some ⟨bk7, 0, none⟩)), (10, .slice aoV74 oV74.length cV74), (14, .int .i64 vV), (15, .int .i64 eV), (19, .int .i64 (i9 : Int)), (20, .int .i64 (k2 : Int)), (219, .bool q)]) (fun q w => Upd (fun _ => False) w303 w ∧ (q = true ↔ ¬ (0 ≤ (nth (nth oV74 i9).xs k2) ∧ (nth (nth oV74 i9).xs k2) < (hs.length : Int)))) (fun K317 hK317 => ?_) ?_)))))
    ·
     refine c_region (t_move rfl rfl rfl (t_cmp rfl rfl rfl rfl rfl (t_move rfl rfl rfl (t_splitp 214 rfl (fun g214 => ?_) (fun g214 => ?_)))))
     ·
      refine t_skip rfl rfl rfl (t_skip rfl rfl rfl (t_skip rfl rfl rfl (t_skip rfl rfl rfl (t_pick_t rfl rfl rfl rfl (t_nil' ?_)))))
      exact hK317 true _ _ ⟨rfl, rfl, rfl, rfl, rfl, rfl, rfl, rfl, rfl, trivial⟩ ⟨(Upd.refl _ _), ⟨fun _ => by omega, fun _ => rfl⟩⟩
     refine t_move rfl rfl rfl (t_move rfl rfl rfl (t_len underlying54 rfl rfl rfl rfl (t_cmp rfl rfl rfl rfl rfl (t_pick_f rfl rfl rfl rfl (t_nil' ?_)))))
     exact hK317 (decide ((hs.length : Int) ≤ (nth ((nth oV74 i9).xs) k2))) _ _ ⟨rfl, rfl, rfl, rfl, rfl, rfl, rfl, rfl, rfl, trivial⟩ ⟨(Upd.refl _ _), (by rw [decide_eq_true_eq]; omega)⟩
    intro q w318 hW
    obtain ⟨u319, I320⟩ := hW
    have zu319 := u319.size
    have hq := I320; clear I320
    refine c_cond rfl (fun g219 => ?_) (fun g219 => ?_)
    ·
     obtain ⟨hv1, hv2⟩ := ver_arg hVR h0 (by rw [List.length_map]; exact hVl) (bad_of (k := i9) (by omega) (nth_mem (i := k2) (by omega)) (by rw [hssl]; exact hq.1 g219))
     refine c_seq fun K322 hK322 => (c_region (t_move rfl rfl rfl (t_cmp rfl rfl rfl rfl rfl (t_same 221 (v := .bool true) rfl (congrArg Value.bool (decide_eq_true hv2)) (t_move rfl rfl rfl (t_move rfl rfl rfl (t_cmp rfl rfl rfl rfl rfl (t_same 224 (v := .bool true) rfl (congrArg Value.bool (decide_eq_true hv1)) (t_pick_t rfl rfl rfl rfl (t_move rfl rfl rfl (t_call own8 rfl rfl rfl rfl (known_c _) (fun v323 w324 r326 => ?_))))))))))))
     obtain ⟨rfl, u325⟩ := r326
     have zu325 := u325.size
     refine t_pick_t rfl rfl rfl rfl (t_assign rfl rfl rfl (t_nil' (hK322 _ _ (c_ret (f_ret1 (v := .bool true) results5 rfl ?_)))))
     exact ⟨rfl, (((E297.nx u304).nx u319).nx u325)⟩
    have hgn := Decidable.not_not.1 (fun h => by rw [hq.2 h] at g219; cases g219)
    refine c_skip (hK312 _ _ (c_region (t_move rfl rfl rfl (t_ari rfl rfl rfl rfl rfl (by omega) (t_assign rfl rfl rfl (t_nil' ?_))))))
    exact hK302 (k2 + 1) _ _ (by omega) ⟨rfl, rfl, rfl, rfl, rfl, rfl, rfl, rfl, trivial⟩ ⟨(u304.nx u319), (by omega), (fun j hj => by
      rcases Nat.lt_or_ge j k2 with q | q
      · exact hg2 j q
      · rw [show j = k2 by omega]; exact hgn)⟩
   refine c_exit (hK300 _ _ (c_region (t_move rfl rfl rfl (t_ari rfl rfl rfl rfl rfl (by omega) (t_assign rfl rfl rfl (t_nil' ?_))))))
   exact hK292 (i9 + 1) _ _ (by omega) ⟨rfl, rfl, rfl, rfl, rfl, rfl, rfl, trivial⟩ ⟨(u294.nx u304), (by omega), (fun k9 hk9 j hj => by
     rcases Nat.lt_or_ge k9 i9 with q | q
     · exact hgd k9 q j hj
     · obtain rfl : k9 = i9 := by omega
       exact hg2 j (by omega))⟩
  have hbad : (oV74.map HL.xs).any (badRow ss.length) = false := bad_no (fun k9 hk9 => by rw [hssl]; exact hgd k9 (by omega))
  obtain ⟨hv1, hv2⟩ := ver_good hVR h0 (by rw [List.length_map]; exact hVl) hbad
  have hinr : ∀ h ∈ rows, ∀ i ∈ h.xs, 0 ≤ i ∧ i < (hs.length : Int) := fun h hh i hi => by
    rw [hmV, hssl] at hbad
    exact bad_in hbad _ (List.mem_map.2 ⟨h, hh, rfl⟩) i hi
  rw [hmV] at hv2
  refine c_exit (hK290 _ _ (c_seq fun K328 hK328 => (c_region (t_move rfl rfl rfl (t_cmp rfl rfl rfl rfl rfl (t_same 230 (v := .bool true) rfl (congrArg Value.bool (decide_eq_true hv1)) (t_move rfl rfl rfl (t_move rfl rfl rfl ?_))))))))
  have B329 := (((((((((((B90.kx u96).kx u103).kx u124).kx u131).kx u156).kx u163).kx u255).kx u260).keep u265 (by omega)).kx u272).kx u294)
  refine t_loadN (vs := [.int .i64 r.rest, .int .i64 r.span, .int .i64 r.work, .int .i64 r.week, .int .i64 r.ww]) isAgg23 sizeOf23 rfl rfl rfl (B329.at.sub 0 5) rfl (t_move rfl rfl rfl (t_field underlying58 rfl sizeOf55 (0) rfl rfl rfl rfl ?_))
  have B330 := (((((((((B120.kx u124).kx u131).kx u156).kx u163).kx u255).kx u260).keep u265 (by omega)).kx u272).kx u294)
  refine t_load isAgg55 rfl rfl rfl (B330.get rfl) (t_field underlying58 rfl sizeOf56 (1) rfl rfl rfl rfl (t_load isAgg56 rfl rfl rfl (B330.get rfl) (t_call own32 rfl rfl rfl rfl (rVerify_c r hs al bl ol cl ss xs ax bx ox cx rows ar br or_ cr _ (hc.ext E297) (hxs.keep E297 (fun _ z => z)) h8 hox (hr9.keep E297 (fun _ z => z)) (by omega) (fun h hh => ⟨(hrm0 h hh).1.keep E297 (fun _ z => z), (hrm0 h hh).2⟩) hinr (by omega) hcx hcr) (fun v331 w332 r334 => ?_))))
  obtain ⟨rfl, u333⟩ := r334
  have zu333 := u333.size
  refine t_cmp rfl rfl rfl rfl rfl (t_same 240 (v := .bool true) rfl (congrArg Value.bool (decide_eq_true hv2)) (t_pick_t rfl rfl rfl rfl (t_move rfl rfl rfl (t_call own8 rfl rfl rfl rfl (known_c _) (fun v336 w337 r339 => ?_)))))
  obtain ⟨rfl, u338⟩ := r339
  have zu338 := u338.size
  refine t_pick_t rfl rfl rfl rfl (t_assign rfl rfl rfl (t_nil' (hK328 _ _ (c_ret (f_ret1 (v := .bool true) results5 rfl ?_)))))
  exact ⟨rfl, ((E297.nx u333).nx u338)⟩
 refine s_do (t_alloc (cs := [.bool false, .slice none 0 0, .int .i64 0]) zeroValue72 rfl rfl rfl (fun bk341 w342 ebk341 sbk341 B343 u344 => ?_))
 have zu344 := u344.size
 refine s_next ((Upd.refl _ _).nx u344) (s_do (t_makeN (enc := encB) (k := 1) (z := .bool false) (bytes := 1) (n := hs.length) false underlying74 (by kernel_rfl) rfl (by decide) (fun _ => rfl) (by decide) rfl rfl rfl rfl rfl (by omega) (fun bm346 w347 ebm346 sbm346 A348 u349 => ?_)))
 have zu349 := u349.size
 have E350 := (E157.nx u344).nx u349
 have hlr : (List.replicate hs.length false).length = hs.length := List.length_replicate ..
 have hmk : mbO (List.replicate hs.length false) ss = (ss.map boardP) := mbO_no (by rw [List.length_replicate]; exact hssl.symm) (fun o ho => (List.mem_replicate.1 ho).2)
 refine t_same 137 (v := .slice (some ⟨bm346, 0, none⟩) ((List.replicate hs.length false).length) hs.length) rfl (by rw [hlr]) (s_next ((Upd.refl _ _).nx u349) (s_do (t_call own31 rfl rfl rfl rfl (rPlan_one (rPlan_d r hs al bl ol cl ss xs ax bx ox cx (List.replicate hs.length false) (some ⟨bm346, 0, none⟩) bm346 0 hs.length _ (hc.ext E350) (hxs.keep E350 (fun _ z => z)) h8 hox (A348.sl (fun _ => rfl)) hlr)) (fun v351 w352 r354 => ?_))))
 rcases r354 with ⟨aF, gF, cF, rwF, hvF, hFe, hSF, hMF, hGF, hBF, u353⟩
 have zu353 := u353.size
 rw [hmk] at hvF
 subst hvF
 rw [hmk] at hFe
 have hMF1 : ∀ h ∈ rwF, Sl encI 1 w352 h.ao h.b h.o h.xs := fun h hh => (hMF h hh).1
 refine s_next ((Upd.refl _ _).nx u353) (s_do ?_)
 have B356 := ((B343.kx u349).kx u353)
 refine t_st (vs := [.bool ((asgP r xs (ss.map boardP) 0 0).1.isSome), .slice aF rwF.length cF, .int .i64 ((asgP r xs (ss.map boardP) 0 0).2 : Int)]) sizeOf72 rfl rfl rfl B356 rfl rfl rfl rfl (fun w357 sw357 B359 u358 => ?_)
 have zu358 := u358.size
 have B359 : Blk w357 bk341 72 [.bool ((asgP r xs (ss.map boardP) 0 0).1.isSome), .slice aF rwF.length cF, .int .i64 ((asgP r xs (ss.map boardP) 0 0).2 : Int)] := B359
 refine s_next ((Upd.refl _ _).next u358 (fun i hi (h : i = bk341) => show w155.heap.size ≤ i ∨ (False) by first | omega | exact .inr h)) (s_nil (hK154 _ _ (c_seq fun K361 hK361 => (c_cut (γ := Nat) (fun zz => [(1, .slice al hs.length cl), (3, .pointer (some ⟨bk2, 0, none⟩)), (5, .pointer (some ⟨bk7, 0, none⟩)), (9, .slice aoG68 xs.length cG68), (10, .slice aoV74 oV74.length cV74), (14, .int .i64 vV), (15, .int .i64 eV), (175, .bool false)]) (fun zz w => Upd (fun _ => False) w357 w) (fun K363 hK363 => ?_) ?_))))
 ·
  refine c_region (t_field underlying72 rfl sizeOf4 (0) rfl rfl rfl rfl (t_load isAgg4 rfl rfl rfl (B359.get rfl) (t_move rfl rfl rfl (t_split 141 rfl (fun g141 => ?_) (fun g141 => ?_)))))
  ·
   obtain ⟨hpl1, hpl2, hpl3⟩ := plan_some hPR h0 g141
   refine t_move rfl rfl rfl (t_cmp rfl rfl rfl rfl rfl (t_same 143 (v := .bool false) rfl (congrArg Value.bool (decide_eq_false (by omega))) (t_move rfl rfl rfl (t_move rfl rfl rfl (t_cmp rfl rfl rfl rfl rfl (t_same 146 (v := .bool false) rfl (congrArg Value.bool (decide_eq_false (by omega))) (t_pick_f rfl rfl rfl rfl (t_move rfl rfl rfl (t_move rfl rfl rfl (t_field underlying72 rfl sizeOf56 (1) rfl rfl rfl rfl (t_load isAgg56 rfl rfl rfl (B359.get rfl) ?_)))))))))))
   have D366 := (((((((((hSP.kE u96).kE u103).kE u124).kE u131).kE u156).kE u344).kE u349).kE u353).keep u358 (fun hp => by have h9 := hSP.lt hp; show ¬ (gP = bk341); omega))
   have D367 := (hSF.keep u358 (fun hp => by have h9 := hSF.lt hp; have h8 := hGF hp; show ¬ (gF = bk341); omega))
   have hrwe : rwP.map HL.xs = rwF.map HL.xs := hFe _ hpl1
   have hrwl : rwP.length = rwF.length := by have h9 := congrArg List.length hrwe; simpa using h9
   have hmF1 : ∀ h ∈ rwF, Sl encI 1 w357 h.ao h.b h.o h.xs ∧ h.xs.length ≤ 1000000 := fun h hh => ⟨((hMF1 h hh).keep u358 (fun hp => by have h9 := (hMF1 h hh).lt hp; have h8 := hBF h hh hp; show ¬ (h.b = bk341); omega)), (hMF h hh).2⟩
   have hmP1 : ∀ h ∈ rwP, Sl encI 1 w357 h.ao h.b h.o h.xs ∧ h.xs.length ≤ 1000000 := fun h hh => ⟨((((((((((hMP h hh).keep u96 (fun _ z => z)).keep u103 (fun _ z => z)).keep u124 (fun _ z => z)).keep u131 (fun _ z => z)).keep u156 (fun _ z => z)).keep u344 (fun _ z => z)).keep u349 (fun _ z => z)).keep u353 (fun _ z => z)).keep u358 (fun hp => by have h9 := (hMP h hh).lt hp; show ¬ (h.b = bk341); omega)), by
     have h8 : h.xs ∈ rwF.map HL.xs := by rw [← hrwe]; exact List.mem_map.2 ⟨h, hh, rfl⟩
     obtain ⟨y, hy, e9⟩ := List.mem_map.1 h8
     rw [← e9]; exact (hMF y hy).2⟩
   have hrwS := (asg_len hpl1).symm
   rw [List.length_map] at hrwS
   refine t_call own29 rfl rfl rfl rfl ((same_c rwP aP gP 0 cP rwF aF gF 0 cF _ D366 D367 (by omega) hmP1 hmF1).mono fun v w9 h9 => (⟨h9.1.trans (congrArg Value.bool (decide_eq_true hrwe)), h9.2⟩ : v = .bool true ∧ Ext w357 w9)) (fun v368 w369 r371 => ?_)
   obtain ⟨rfl, u370⟩ := r371
   have zu370 := u370.size
   refine t_not rfl rfl rfl (t_pick_f rfl rfl rfl rfl (t_pick_t rfl rfl rfl rfl (t_move rfl rfl rfl (t_field underlying72 rfl sizeOf4 (0) rfl rfl rfl rfl ?_))))
   have B373 := (B359.kx u370)
   refine t_load isAgg4 rfl rfl rfl (B373.get rfl) (t_not rfl rfl rfl (t_same 159 (v := .bool false) rfl (congrArg Value.bool (by rw [g141]; rfl)) (t_move rfl rfl rfl (t_skip rfl rfl rfl (t_skip rfl rfl rfl (t_skip rfl rfl rfl (t_skip rfl rfl rfl (t_skip rfl rfl rfl (t_skip rfl rfl rfl (t_skip rfl rfl rfl (t_skip rfl rfl rfl (t_skip rfl rfl rfl (t_skip rfl rfl rfl (t_skip rfl rfl rfl (t_skip rfl rfl rfl (t_skip rfl rfl rfl (t_pick_f rfl rfl rfl rfl (t_pick_f rfl rfl rfl rfl (t_nil' ?_)))))))))))))))))))
   exact hK363 0 _ _ ⟨rfl, rfl, rfl, rfl, rfl, rfl, rfl, rfl, trivial⟩ ((Upd.refl _ _).nx u370)
  obtain ⟨hpn1, hpn2, hpn3⟩ := plan_none hPR h0 g141
  rw [List.length_map] at hpn3
  refine t_skip rfl rfl rfl (t_skip rfl rfl rfl (t_skip rfl rfl rfl (t_skip rfl rfl rfl (t_skip rfl rfl rfl (t_skip rfl rfl rfl (t_skip rfl rfl rfl (t_skip rfl rfl rfl (t_skip rfl rfl rfl (t_skip rfl rfl rfl (t_skip rfl rfl rfl (t_skip rfl rfl rfl (t_skip rfl rfl rfl (t_pick_f rfl rfl rfl rfl (t_move rfl rfl rfl (t_field underlying72 rfl sizeOf4 (0) rfl rfl rfl rfl (t_load isAgg4 rfl rfl rfl (B359.get rfl) (t_not rfl rfl rfl (t_same 159 (v := .bool true) rfl (congrArg Value.bool (by rw [g141]; rfl)) (t_move rfl rfl rfl (t_move rfl rfl rfl (t_cmp rfl rfl rfl rfl rfl (t_same 162 (v := .bool false) rfl (congrArg Value.bool (decide_eq_false (by omega))) (t_move rfl rfl rfl ?_)))))))))))))))))))))))
  refine t_move rfl rfl rfl (t_field underlying72 rfl sizeOf3 (2) rfl rfl rfl rfl (t_load isAgg3 rfl rfl rfl (B359.get rfl) (t_cmp rfl rfl rfl rfl rfl (t_same 167 (v := .bool false) rfl (congrArg Value.bool (decide_eq_false (fun h => h hpn1))) (t_pick_f rfl rfl rfl rfl (t_move rfl rfl rfl (t_move rfl rfl rfl (t_len underlying56 rfl rfl rfl rfl (t_cmp rfl rfl rfl rfl rfl (t_same 172 (v := .bool false) rfl (congrArg Value.bool (decide_eq_false (by omega))) (t_pick_f rfl rfl rfl rfl (t_pick_t rfl rfl rfl rfl (t_pick_f rfl rfl rfl rfl (t_nil' ?_))))))))))))))
  exact hK363 0 _ _ ⟨rfl, rfl, rfl, rfl, rfl, rfl, rfl, rfl, trivial⟩ (Upd.refl _ _)
 intro zz w364 u365
 have zu365 := u365.size
 have E374 := ((E350.nx u353).next u358 (fun i hi h => by omega)).nx u365
 refine c_cond_f rfl (c_skip (hK361 _ _ (c_seq fun K375 hK375 => (c_seq fun K376 hK376 => (c_region (t_move rfl rfl rfl (t_len underlying56 rfl rfl rfl rfl (t_move rfl rfl rfl (t_len underlying55 rfl rfl rfl rfl (t_cmp rfl rfl rfl rfl rfl (t_nil' (hK376 _ _ (c_condp rfl (fun g180 => ?_) (fun g180 => ?_))))))))))))))
 ·
  obtain ⟨hv1, hv2⟩ := ver_form hVR h0 (by rw [List.length_map]; omega)
  refine c_seq fun K377 hK377 => (c_region (t_move rfl rfl rfl (t_cmp rfl rfl rfl rfl rfl (t_same 182 (v := .bool true) rfl (congrArg Value.bool (decide_eq_true hv2)) (t_move rfl rfl rfl (t_move rfl rfl rfl (t_cmp rfl rfl rfl rfl rfl (t_same 185 (v := .bool true) rfl (congrArg Value.bool (decide_eq_true hv1)) (t_pick_t rfl rfl rfl rfl (t_move rfl rfl rfl (t_call own8 rfl rfl rfl rfl (known_c _) (fun v378 w379 r381 => ?_))))))))))))
  obtain ⟨rfl, u380⟩ := r381
  have zu380 := u380.size
  refine t_pick_t rfl rfl rfl rfl (t_assign rfl rfl rfl (t_nil' (hK377 _ _ (c_ret (f_ret1 (v := .bool true) results5 rfl ?_)))))
  exact ⟨rfl, (E374.nx u380)⟩
 have hVl : oV74.length = xs.length := by omega
 refine c_skip (hK375 _ _ (c_seq fun K383 hK383 => (c_seq fun K384 hK384 => (c_region (t_assign rfl rfl rfl (t_nil' (hK384 _ _ (c_block (c_loop (γ := Nat) (fun i9 => [(1, .slice al hs.length cl), (3, .pointer (some ⟨bk2, 0, none⟩)), (5, .pointer (some ⟨bk7, 0, none⟩)), (10, .slice aoV74 oV74.length cV74), (14, .int .i64 vV), (15, .int .i64 eV), (19, .int .i64 (i9 : Int))]) (fun i9 w => Upd (fun _ => False) w364 w ∧ (i9 ≤ oV74.length) ∧ (∀ k, k < i9 → ∀ j, j < (nth oV74 k).xs.length → 0 ≤ nth (nth oV74 k).xs j ∧ nth (nth oV74 k).xs j < (hs.length : Int))) (fun i9 => oV74.length - i9) 0 ⟨rfl, rfl, rfl, rfl, rfl, rfl, rfl, trivial⟩ ⟨Upd.refl _ _, (Nat.zero_le _), (fun k hk => absurd hk (Nat.not_lt_zero _))⟩ ?_)))))))))
 intro i9 w386 hW K385 hK385
 obtain ⟨u387, I388, I389⟩ := hW
 have zu387 := u387.size
 have E390 := E374.nx u387
 have hi9 := I388; clear I388
 have hgd := I389; clear I389
 refine c_seq fun K391 hK391 => (c_seq fun K392 hK392 => (c_region (t_move rfl rfl rfl (t_move rfl rfl rfl (t_len underlying56 rfl rfl rfl rfl (t_cmp rfl rfl rfl rfl rfl (t_nil' (hK392 _ _ (c_condp rfl (fun g193 => ?_) (fun g193 => ?_))))))))))
 ·
  refine c_skip (hK391 _ _ (c_seq fun K393 hK393 => (c_block (c_seq fun K394 hK394 => (c_region (t_assign rfl rfl rfl (t_nil' (hK394 _ _ (c_block ?_)))))))))
  have hxe9 : nth (oV74.map HL.xs) i9 = nth (rows.map HL.xs) i9 := by rw [hmV]
  rw [nth_map2 _ (by omega), nth_map2 _ (by omega)] at hxe9
  have hno9 := hno i9 (by omega)
  rw [← hxe9] at hno9
  refine c_loop (γ := Nat) (fun k2 => [(1, .slice al hs.length cl), (3, .pointer (some ⟨bk2, 0, none⟩)), (5, .pointer (some ⟨bk7, 0, none⟩)), (10, .slice aoV74 oV74.length cV74), (14, .int .i64 vV), (15, .int .i64 eV), (19, .int .i64 (i9 : Int)), (20, .int .i64 (k2 : Int))]) (fun k2 w => Upd (fun _ => False) w386 w ∧ (k2 ≤ (nth oV74 i9).xs.length) ∧ (∀ j, j < k2 → 0 ≤ nth (nth oV74 i9).xs j ∧ nth (nth oV74 i9).xs j < (hs.length : Int))) (fun k2 => (nth oV74 i9).xs.length - k2) 0 ⟨rfl, rfl, rfl, rfl, rfl, rfl, rfl, rfl, trivial⟩ ⟨Upd.refl _ _, (Nat.zero_le _), (fun k hk => absurd hk (Nat.not_lt_zero _))⟩ ?_
  intro k2 w396 hW K395 hK395
  obtain ⟨u397, I398, I399⟩ := hW
  have zu397 := u397.size
  have hk2 := I398; clear I398
  have hg2 := I399; clear I399
  refine c_seq fun K401 hK401 => (c_seq fun K402 hK402 => (c_region (t_move rfl rfl rfl (t_move rfl rfl rfl (t_move rfl rfl rfl ?_)))))
  have D403 := ((((((((((D121.kE u124).kE u131).kE u156).kE u344).kE u349).kE u353).keep u358 (fun hb => show ¬ (gV74 = bk341) by first | omega | assumption)).kE u365).kE u387).kE u397)
  have i404 : i9 < oV74.length := (by omega)
  refine t_index (j := i9) underlying56 sizeOf60 rfl rfl rfl rfl ((D403.sl (fun _ => rfl)).addr (by omega)) rfl i404 (t_load isAgg60 rfl rfl rfl (((D403.sl (fun _ => rfl)).at_ i9 (by omega)) 0 _ rfl) (t_len underlying60 rfl rfl rfl rfl (t_cmp rfl rfl rfl rfl rfl (t_nil' (hK402 _ _ (c_condp rfl (fun g202 => ?_) (fun g202 => ?_)))))))
  ·
   refine c_skip (hK401 _ _ (c_seq fun K405 hK405 => (c_block (c_seq fun K406 hK406 => (c_region (t_move rfl rfl rfl (t_move rfl rfl rfl ?_)))))))
   have i407 : i9 < oV74.length := (by omega)
   refine t_index (j := i9) underlying56 sizeOf60 rfl rfl rfl rfl ((D403.sl (fun _ => rfl)).addr (by omega)) rfl i407 (t_load isAgg60 rfl rfl rfl (((D403.sl (fun _ => rfl)).at_ i9 (by omega)) 0 _ rfl) (t_move rfl rfl rfl ?_))
   have i408 : k2 < (nth oV74 i9).xs.length := (by omega)
   refine t_index (j := k2) underlying60 sizeOf3 rfl rfl rfl rfl (((((((((((((((hsV74 (nth oV74 i9) (nth_mem (by omega))).sl.1.keep u86 (fun _ z => z)).keep u96 (fun _ z => z)).keep u103 (fun _ z => z)).keep u124 (fun _ z => z)).keep u131 (fun _ z => z)).keep u156 (fun _ z => z)).keep u344 (fun _ z => z)).keep u349 (fun _ z => z)).keep u353 (fun _ z => z)).keep u358 (fun hp => by have h9 := (hsV74 (nth oV74 i9) (nth_mem (by omega))).sl.1.lt hp; show ¬ ((nth oV74 i9).b = bk341); omega)).keep u365 (fun _ z => z)).keep u387 (fun _ z => z)).keep u397 (fun _ z => z)).addr (by omega)) rfl i408 (t_load isAgg3 rfl rfl rfl ((((((((((((((((hsV74 (nth oV74 i9) (nth_mem (by omega))).sl.1.keep u86 (fun _ z => z)).keep u96 (fun _ z => z)).keep u103 (fun _ z => z)).keep u124 (fun _ z => z)).keep u131 (fun _ z => z)).keep u156 (fun _ z => z)).keep u344 (fun _ z => z)).keep u349 (fun _ z => z)).keep u353 (fun _ z => z)).keep u358 (fun hp => by have h9 := (hsV74 (nth oV74 i9) (nth_mem (by omega))).sl.1.lt hp; show ¬ ((nth oV74 i9).b = bk341); omega)).keep u365 (fun _ z => z)).keep u387 (fun _ z => z)).keep u397 (fun _ z => z)).at_ k2 (by omega)) 0 _ rfl) (t_assign rfl rfl rfl (t_nil' (hK406 _ _ (c_cut (γ := Bool) (fun q => [(1, .slice al hs.length cl), (3, .pointer (some ⟨bk2, 0, none⟩)), (5, .pointer (some ⟨bk7, 0, none⟩)), (10, .slice aoV74 oV74.length cV74), (14, .int .i64 vV), (15, .int .i64 eV), (19, .int .i64 (i9 : Int)), (20, .int .i64 (k2 : Int)), (219, .bool q)]) (fun q w => Upd (fun _ => False) w396 w ∧ (q = true ↔ ¬ (0 ≤ (nth (nth oV74 i9).xs k2) ∧ (nth (nth oV74 i9).xs k2) < (hs.length : Int)))) (fun K410 hK410 => ?_) ?_)))))
   ·
    refine c_region (t_move rfl rfl rfl (t_cmp rfl rfl rfl rfl rfl (t_move rfl rfl rfl (t_splitp 214 rfl (fun g214 => ?_) (fun g214 => ?_)))))
    ·
     refine t_skip rfl rfl rfl (t_skip rfl rfl rfl (t_skip rfl rfl rfl (t_skip rfl rfl rfl (t_pick_t rfl rfl rfl rfl (t_nil' ?_)))))
     exact hK410 true _ _ ⟨rfl, rfl, rfl, rfl, rfl, rfl, rfl, rfl, rfl, trivial⟩ ⟨(Upd.refl _ _), ⟨fun _ => by omega, fun _ => rfl⟩⟩
    refine t_move rfl rfl rfl (t_move rfl rfl rfl (t_len underlying54 rfl rfl rfl rfl (t_cmp rfl rfl rfl rfl rfl (t_pick_f rfl rfl rfl rfl (t_nil' ?_)))))
    exact hK410 (decide ((hs.length : Int) ≤ (nth ((nth oV74 i9).xs) k2))) _ _ ⟨rfl, rfl, rfl, rfl, rfl, rfl, rfl, rfl, rfl, trivial⟩ ⟨(Upd.refl _ _), (by rw [decide_eq_true_eq]; omega)⟩
   intro q w411 hW
   obtain ⟨u412, I413⟩ := hW
   have zu412 := u412.size
   have hq := I413; clear I413
   refine c_cond rfl (fun g219 => ?_) (fun g219 => ?_)
   ·
    obtain ⟨hv1, hv2⟩ := ver_arg hVR h0 (by rw [List.length_map]; exact hVl) (bad_of (k := i9) (by omega) (nth_mem (i := k2) (by omega)) (by rw [hssl]; exact hq.1 g219))
    refine c_seq fun K415 hK415 => (c_region (t_move rfl rfl rfl (t_cmp rfl rfl rfl rfl rfl (t_same 221 (v := .bool true) rfl (congrArg Value.bool (decide_eq_true hv2)) (t_move rfl rfl rfl (t_move rfl rfl rfl (t_cmp rfl rfl rfl rfl rfl (t_same 224 (v := .bool true) rfl (congrArg Value.bool (decide_eq_true hv1)) (t_pick_t rfl rfl rfl rfl (t_move rfl rfl rfl (t_call own8 rfl rfl rfl rfl (known_c _) (fun v416 w417 r419 => ?_))))))))))))
    obtain ⟨rfl, u418⟩ := r419
    have zu418 := u418.size
    refine t_pick_t rfl rfl rfl rfl (t_assign rfl rfl rfl (t_nil' (hK415 _ _ (c_ret (f_ret1 (v := .bool true) results5 rfl ?_)))))
    exact ⟨rfl, (((E390.nx u397).nx u412).nx u418)⟩
   have hgn := Decidable.not_not.1 (fun h => by rw [hq.2 h] at g219; cases g219)
   refine c_skip (hK405 _ _ (c_region (t_move rfl rfl rfl (t_ari rfl rfl rfl rfl rfl (by omega) (t_assign rfl rfl rfl (t_nil' ?_))))))
   exact hK395 (k2 + 1) _ _ (by omega) ⟨rfl, rfl, rfl, rfl, rfl, rfl, rfl, rfl, trivial⟩ ⟨(u397.nx u412), (by omega), (fun j hj => by
     rcases Nat.lt_or_ge j k2 with q | q
     · exact hg2 j q
     · rw [show j = k2 by omega]; exact hgn)⟩
  refine c_exit (hK393 _ _ (c_region (t_move rfl rfl rfl (t_ari rfl rfl rfl rfl rfl (by omega) (t_assign rfl rfl rfl (t_nil' ?_))))))
  exact hK385 (i9 + 1) _ _ (by omega) ⟨rfl, rfl, rfl, rfl, rfl, rfl, rfl, trivial⟩ ⟨(u387.nx u397), (by omega), (fun k9 hk9 j hj => by
    rcases Nat.lt_or_ge k9 i9 with q | q
    · exact hgd k9 q j hj
    · obtain rfl : k9 = i9 := by omega
      exact hg2 j (by omega))⟩
 have hbad : (oV74.map HL.xs).any (badRow ss.length) = false := bad_no (fun k9 hk9 => by rw [hssl]; exact hgd k9 (by omega))
 obtain ⟨hv1, hv2⟩ := ver_good hVR h0 (by rw [List.length_map]; exact hVl) hbad
 have hinr : ∀ h ∈ rows, ∀ i ∈ h.xs, 0 ≤ i ∧ i < (hs.length : Int) := fun h hh i hi => by
   rw [hmV, hssl] at hbad
   exact bad_in hbad _ (List.mem_map.2 ⟨h, hh, rfl⟩) i hi
 rw [hmV] at hv2
 refine c_exit (hK383 _ _ (c_seq fun K421 hK421 => (c_region (t_move rfl rfl rfl (t_cmp rfl rfl rfl rfl rfl (t_same 230 (v := .bool true) rfl (congrArg Value.bool (decide_eq_true hv1)) (t_move rfl rfl rfl (t_move rfl rfl rfl ?_))))))))
 have B422 := (((((((((((B90.kx u96).kx u103).kx u124).kx u131).kx u156).kx u344).kx u349).kx u353).keep u358 (by omega)).kx u365).kx u387)
 refine t_loadN (vs := [.int .i64 r.rest, .int .i64 r.span, .int .i64 r.work, .int .i64 r.week, .int .i64 r.ww]) isAgg23 sizeOf23 rfl rfl rfl (B422.at.sub 0 5) rfl (t_move rfl rfl rfl (t_field underlying58 rfl sizeOf55 (0) rfl rfl rfl rfl ?_))
 have B423 := (((((((((B120.kx u124).kx u131).kx u156).kx u344).kx u349).kx u353).keep u358 (by omega)).kx u365).kx u387)
 refine t_load isAgg55 rfl rfl rfl (B423.get rfl) (t_field underlying58 rfl sizeOf56 (1) rfl rfl rfl rfl (t_load isAgg56 rfl rfl rfl (B423.get rfl) (t_call own32 rfl rfl rfl rfl (rVerify_c r hs al bl ol cl ss xs ax bx ox cx rows ar br or_ cr _ (hc.ext E390) (hxs.keep E390 (fun _ z => z)) h8 hox (hr9.keep E390 (fun _ z => z)) (by omega) (fun h hh => ⟨(hrm0 h hh).1.keep E390 (fun _ z => z), (hrm0 h hh).2⟩) hinr (by omega) hcx hcr) (fun v424 w425 r427 => ?_))))
 obtain ⟨rfl, u426⟩ := r427
 have zu426 := u426.size
 refine t_cmp rfl rfl rfl rfl rfl (t_same 240 (v := .bool true) rfl (congrArg Value.bool (decide_eq_true hv2)) (t_pick_t rfl rfl rfl rfl (t_move rfl rfl rfl (t_call own8 rfl rfl rfl rfl (known_c _) (fun v429 w430 r432 => ?_)))))
 obtain ⟨rfl, u431⟩ := r432
 have zu431 := u431.size
 refine t_pick_t rfl rfl rfl rfl (t_assign rfl rfl rfl (t_nil' (hK421 _ _ (c_ret (f_ret1 (v := .bool true) results5 rfl ?_)))))
 exact ⟨rfl, ((E390.nx u426).nx u431)⟩

end Go.Proofs.YtagmodjadmecdaaGreat
