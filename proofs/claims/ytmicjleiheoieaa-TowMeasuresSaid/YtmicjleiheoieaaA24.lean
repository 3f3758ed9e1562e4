/-
  The law TowMeasures returns true. Conditions: none.
-/
import Derived.Test.YtmicjleiheoieaaA13
import Derived.Test.YtmicjleiheoieaaA23
namespace Go.Proofs.Ytmicjleiheoieaa
open Go Go.RowKit
theorem MeasureAs_c (boat : Hull) (power : Int) (rows : List HRow) (ao : Option Addr) (b o cap : Nat) (w0 : World) (hs : Sl encHRow 1 w0 ao b o rows) (hrows : ∀ r ∈ rows, Sl encHull 3 w0 r.ao r.b r.o r.xs) (hl : rows.length ≤ 1000000) (hll : ∀ r ∈ rows, r.xs.length ≤ 1000000)
    (xss : List (List Hull)) (hx : rows.map (·.xs) = xss) : CallsV Try.prog 37 [.agg #[.int .i64 boat.len, .int .i64 boat.wid, .int .i64 boat.mass, .int .i64 power, .slice ao rows.length cap]] w0
    (fun v w' => v = .tuple #[.agg #[.int .i64 (MeaS boat power xss).len, .int .i64 (MeaS boat power xss).wid, .int .i64 (MeaS boat power xss).mass, .int .i64 (MeaS boat power xss).hulls], .int .i64 (MeaE boat power xss)] ∧ Ext w0 w') := by
  subst hx; exact Measure_c boat power rows ao b o cap w0 hs hrows hl hll
def xssOf (rows : List HRow) : List (List Hull) := rows.map (·.xs)
theorem map_nth_xs {rs rows : List HRow} (h : rs.map (·.xs) = rows.map (·.xs)) {i : Nat} (hi : i < rows.length) : (nth rs i).xs = (nth rows i).xs := by
  have hl : rs.length = rows.length := by simpa using congrArg List.length h
  have h1 := congrArg (fun l => l[i]?) h
  simp only [List.getElem?_map] at h1
  rw [List.getElem?_eq_getElem hi, List.getElem?_eq_getElem (show i < rs.length by omega)] at h1
  rw [nth_eq hi, nth_eq (show i < rs.length by omega)]
  simpa using h1
theorem map_len {rs rows : List HRow} (h : rs.map (·.xs) = rows.map (·.xs)) : rs.length = rows.length := by simpa using congrArg List.length h
theorem len_of_map {rs rows : List HRow} {n : Nat} (h : rs.map (·.xs) = rows.map (·.xs)) (hr : ∀ r ∈ rows, r.xs.length ≤ n) : ∀ r ∈ rs, r.xs.length ≤ n := fun r hm => by
  have h1 : r.xs ∈ rows.map (·.xs) := by rw [← h]; exact List.mem_map.2 ⟨r, hm, rfl⟩
  obtain ⟨q, hq, he⟩ := List.mem_map.1 h1
  rw [← he]; exact hr q hq

theorem own7 : Own Try.prog 7 := ⟨Try.f7, Try.func7, by kernel_rfl, by kernel_rfl⟩

theorem eqIn23 (n : Nat) (a0 : Int) (a1 : Int) (a2 : Int) (b0 : Int) (b1 : Int) (b2 : Int) (w : World) : (Op.equalIn (n + 2) 23 (.agg #[.int .i64 a0, .int .i64 a1, .int .i64 a2]) (.agg #[.int .i64 b0, .int .i64 b1, .int .i64 b2])).run Try.prog w = .ok (decide (a0 = b0) && decide (a1 = b1) && decide (a2 = b2)) w := by
  have hS : Try.prog.underlying 23 = some (.struct (Try.prog.fieldsOf 23)) := by kernel_rfl
  have hp : Try.prog.stoodInHeld 23 = false := by kernel_rfl
  have p0 : ∀ (a0 : Int) (a1 : Int) (a2 : Int), (part 3 #[.int .i64 a0, .int .i64 a1, .int .i64 a2] 0).run Try.prog w = .ok (.int .i64 a0) w := fun _ _ _ => by simp [part, Try.isAgg3]
  have p1 : ∀ (a0 : Int) (a1 : Int) (a2 : Int), (part 3 #[.int .i64 a0, .int .i64 a1, .int .i64 a2] 1).run Try.prog w = .ok (.int .i64 a1) w := fun _ _ _ => by simp [part, Try.isAgg3]
  have p2 : ∀ (a0 : Int) (a1 : Int) (a2 : Int), (part 3 #[.int .i64 a0, .int .i64 a1, .int .i64 a2] 2).run Try.prog w = .ok (.int .i64 a2) w := fun _ _ _ => by simp [part, Try.isAgg3]
  have e3 := fun a b w => equal_i64 Try.underlying3 (n + 0) a b w
  rw [run_equalIn_struct w (n + 1) 23 _ _ hS hp]
  simp only [Program.fieldsOf, Try.underlying23]
  simp only [Op.eqFields, Sem.run_bind, Sem.run_ite, p0, p1, p2, e3, Result.andThen_ok]
  by_cases h0 : a0 = b0 <;> by_cases h1 : a1 = b1 <;> by_cases h2 : a2 = b2 <;> simp [h0, h1, h2, p0, p1, p2, e3]
theorem eqIn66 (n : Nat) (a0 : Int) (a1 : Int) (a2 : Int) (a3 : Int) (b0 : Int) (b1 : Int) (b2 : Int) (b3 : Int) (w : World) : (Op.equalIn (n + 2) 66 (.agg #[.int .i64 a0, .int .i64 a1, .int .i64 a2, .int .i64 a3]) (.agg #[.int .i64 b0, .int .i64 b1, .int .i64 b2, .int .i64 b3])).run Try.prog w = .ok (decide (a0 = b0) && decide (a1 = b1) && decide (a2 = b2) && decide (a3 = b3)) w := by
  have hS : Try.prog.underlying 66 = some (.struct (Try.prog.fieldsOf 66)) := by kernel_rfl
  have hp : Try.prog.stoodInHeld 66 = false := by kernel_rfl
  have p0 : ∀ (a0 : Int) (a1 : Int) (a2 : Int) (a3 : Int), (part 3 #[.int .i64 a0, .int .i64 a1, .int .i64 a2, .int .i64 a3] 0).run Try.prog w = .ok (.int .i64 a0) w := fun _ _ _ _ => by simp [part, Try.isAgg3]
  have p1 : ∀ (a0 : Int) (a1 : Int) (a2 : Int) (a3 : Int), (part 3 #[.int .i64 a0, .int .i64 a1, .int .i64 a2, .int .i64 a3] 1).run Try.prog w = .ok (.int .i64 a1) w := fun _ _ _ _ => by simp [part, Try.isAgg3]
  have p2 : ∀ (a0 : Int) (a1 : Int) (a2 : Int) (a3 : Int), (part 3 #[.int .i64 a0, .int .i64 a1, .int .i64 a2, .int .i64 a3] 2).run Try.prog w = .ok (.int .i64 a2) w := fun _ _ _ _ => by simp [part, Try.isAgg3]
  have p3 : ∀ (a0 : Int) (a1 : Int) (a2 : Int) (a3 : Int), (part 3 #[.int .i64 a0, .int .i64 a1, .int .i64 a2, .int .i64 a3] 3).run Try.prog w = .ok (.int .i64 a3) w := fun _ _ _ _ => by simp [part, Try.isAgg3]
  have e3 := fun a b w => equal_i64 Try.underlying3 (n + 0) a b w
  rw [run_equalIn_struct w (n + 1) 66 _ _ hS hp]
  simp only [Program.fieldsOf, Try.underlying66]
  simp only [Op.eqFields, Sem.run_bind, Sem.run_ite, p0, p1, p2, p3, e3, Result.andThen_ok]
  by_cases h0 : a0 = b0 <;> by_cases h1 : a1 = b1 <;> by_cases h2 : a2 = b2 <;> by_cases h3 : a3 = b3 <;> simp [h0, h1, h2, h3, p0, p1, p2, p3, e3]

theorem TowMeasures_c (boat : Hull) (power : Int) (rows : List HRow) (ao : Option Addr) (b o cap : Nat) (w0 : World) (hs : Sl encHRow 1 w0 ao b o rows) (hrows : ∀ r ∈ rows, Sl encHull 3 w0 r.ao r.b r.o r.xs) :
    CallsV Try.prog 7 [.agg #[.int .i64 boat.len, .int .i64 boat.wid, .int .i64 boat.mass, .int .i64 power, .slice ao rows.length cap]] w0 (fun v w' => v = .bool true ∧ Ext w0 w') := by
  have E0 := Upd.refl (fun _ => False) w0
  refine f_enter (N := 106) Try.func7 rfl rfl rfl ?_
  change WC _ _ _ _ _ _ [(0, .agg #[.int .i64 boat.len, .int .i64 boat.wid, .int .i64 boat.mass, .int .i64 power, .slice ao rows.length cap])] _
  refine c_seq fun K1 hK1 => ?_
  refine c_region ?_
  refine t_box (cs := [.int .i64 boat.len, .int .i64 boat.wid, .int .i64 boat.mass, .int .i64 power, .slice ao rows.length cap]) rfl rfl rfl rfl (fun bk2 w3 ebk2 sbk2 B4 u5 => ?_)
  have zu5 := u5.size
  have E6 := E0.next u5 (fun _ _ h => h.elim)
  refine t_assign rfl rfl rfl ?_
  refine t_nil' ?_
  refine hK1 _ _ ?_
  refine c_seq fun K7 hK7 => ?_
  refine c_region ?_
  refine t_loadN (vs := [.int .i64 boat.len, .int .i64 boat.wid, .int .i64 boat.mass, .int .i64 power, .slice ao rows.length cap]) Try.isAgg64 Try.sizeOf64 rfl rfl rfl (B4.at.sub 0 5) rfl ?_
  refine t_alloc (cs := [.int .i64 0, .int .i64 0, .int .i64 0, .int .i64 0, .slice none 0 0]) Try.zeroValue64 rfl rfl rfl (fun bk8 w9 ebk8 sbk8 B10 u11 => ?_)
  have zu11 := u11.size
  have E12 := E6.next u11 (fun _ _ h => h.elim)
  refine t_store (vs := [.int .i64 boat.len, .int .i64 boat.wid, .int .i64 boat.mass, .int .i64 power, .slice ao rows.length cap]) Try.sizeOf64 rfl rfl rfl B10 rfl rfl (Nat.le_of_ble_eq_true rfl) (by simp [Value.oneCell']) (fun w13 sw13 B15 u14 => ?_)
  have zu14 := u14.size
  have E16 := E12.next u14 (fun i hi (h : i = bk8) => show False by first | omega | assumption)
  have B15 : Blk w13 bk8 64 [.int .i64 boat.len, .int .i64 boat.wid, .int .i64 boat.mass, .int .i64 power, .slice ao rows.length cap] := B15
  refine t_nil' ?_
  refine hK7 _ _ ?_
  refine c_seq fun K17 hK17 => ?_
  refine c_region ?_
  refine t_field Try.underlying64 rfl Try.sizeOf62 (4) rfl rfl rfl rfl ?_
  refine t_store (vs := [.slice none 0 0]) Try.sizeOf62 rfl rfl rfl B15 rfl rfl (Nat.le_of_ble_eq_true rfl) (by simp [Value.oneCell']) (fun w18 sw18 B20 u19 => ?_)
  have zu19 := u19.size
  have E21 := E16.next u19 (fun i hi (h : i = bk8) => show False by first | omega | assumption)
  have B20 : Blk w18 bk8 64 [.int .i64 boat.len, .int .i64 boat.wid, .int .i64 boat.mass, .int .i64 power, .slice none 0 0] := B20
  refine t_nil' ?_
  refine hK17 _ _ ?_
  refine c_seq fun K22 hK22 => ?_
  refine c_seq fun K23 hK23 => ?_
  refine c_region ?_
  refine t_assign rfl rfl rfl ?_
  refine t_nil' ?_
  refine hK23 _ _ ?_
  refine c_block ?_
  refine c_loop (γ := Nat × Option Addr × Nat × Nat × List HRow) (fun gg => [(1, .pointer (some ⟨bk2, 0, none⟩)), (3, .pointer (some ⟨bk8, 0, none⟩)), (4, .int .i64 (gg.1 : Int))]) (fun gg w => Upd (fun i => i = bk8) w18 w ∧ Blk w bk8 64 [.int .i64 boat.len, .int .i64 boat.wid, .int .i64 boat.mass, .int .i64 power, .slice gg.2.1 gg.2.2.2.2.length gg.2.2.2.1] ∧ (gg.1 ≤ rows.length) ∧ (0 < gg.1 → rows.length ≤ 15) ∧ (∀ r ∈ rows.take gg.1, r.xs.length ≤ 8) ∧ (gg.2.2.2.2.map (·.xs) = (rows.take gg.1).map (·.xs)) ∧ (Acc encHRow 1 24 w18.heap.size w gg.2.1 gg.2.2.1 gg.2.2.2.1 gg.2.2.2.2) ∧ (Fam encHull 3 HRow.ao HRow.b HRow.o HRow.xs w18.heap.size gg.2.2.1 w.heap.size gg.2.2.2.2 w) ∧ (gg.2.2.2.2.length = gg.1)) (fun gg => rows.length - gg.1) (0, none, 0, 0, []) ⟨rfl, rfl, rfl, trivial⟩ ⟨Upd.refl _ _, B20, (Nat.zero_le _), (fun h => absurd h (by decide)), (fun r hr => by cases hr), rfl, (Acc.nil _ _ _ _ _ (by omega) (Nat.le_refl _)), Fam.nil, rfl⟩ ?_
  intro gg w25 hW K24 hK24
  obtain ⟨k, ao2, g2, c2, rs⟩ := gg
  change WC _ _ _ _ _ _ [(1, .pointer (some ⟨bk2, 0, none⟩)), (3, .pointer (some ⟨bk8, 0, none⟩)), (4, .int .i64 (k : Int))] _
  change Upd (fun i => i = bk8) w18 w25 ∧ Blk w25 bk8 64 [.int .i64 boat.len, .int .i64 boat.wid, .int .i64 boat.mass, .int .i64 power, .slice ao2 rs.length c2] ∧ (k ≤ rows.length) ∧ (0 < k → rows.length ≤ 15) ∧ (∀ r ∈ rows.take k, r.xs.length ≤ 8) ∧ (rs.map (·.xs) = (rows.take k).map (·.xs)) ∧ (Acc encHRow 1 24 w18.heap.size w25 ao2 g2 c2 rs) ∧ (Fam encHull 3 HRow.ao HRow.b HRow.o HRow.xs w18.heap.size g2 w25.heap.size rs w25) ∧ (rs.length = k) at hW
  obtain ⟨u26, I27, I28, I29, I30, I31, I32, I33, I34⟩ := hW
  have zu26 := u26.size
  have E35 := E21.next u26 (fun i hi (h : i = bk8) => show False by first | omega | assumption)
  have hk := I28; clear I28
  have h15 := I29; clear I29
  have h8 := I30; clear I30
  have hmap := I31; clear I31
  have hacc := I32; clear I32
  have hfam := I33; clear I33
  have hrl := I34; clear I34
  have lt_g2 := hacc.lt
  refine c_seq fun K36 hK36 => ?_
  refine c_seq fun K37 hK37 => ?_
  refine c_region ?_
  refine t_move rfl rfl rfl ?_
  refine t_field Try.underlying64 rfl Try.sizeOf62 (4) rfl rfl rfl rfl ?_
  have B38 := ((((B4.keep u11 (fun h => h)).keep u14 (show ¬ (bk2 = bk8) by first | omega | assumption)).keep u19 (show ¬ (bk2 = bk8) by first | omega | assumption)).keep u26 (show ¬ (bk2 = bk8) by first | omega | assumption))
  refine t_load Try.isAgg62 rfl rfl rfl (B38.get rfl) ?_
  refine t_len Try.underlying62 rfl rfl rfl rfl ?_
  refine t_cmp rfl rfl rfl rfl rfl ?_
  refine t_nil' ?_
  refine hK37 _ _ ?_
  refine c_condp rfl (fun g15 => ?_) (fun g15 => ?_)
  · -- .bool (decide ((k : Int) < (rows.length : Int)))
    refine c_skip ?_
    refine hK36 _ _ ?_
    refine c_seq fun K39 hK39 => ?_
    refine c_block ?_
    refine c_seq fun K40 hK40 => ?_
    refine c_seq fun K41 hK41 => ?_
    refine c_region ?_
    refine t_field Try.underlying64 rfl Try.sizeOf62 (4) rfl rfl rfl rfl ?_
    refine t_load Try.isAgg62 rfl rfl rfl (B38.get rfl) ?_
    refine t_move rfl rfl rfl ?_
    have i42 : k < rows.length := (by omega)
    refine t_index (j := k) Try.underlying62 Try.sizeOf24 rfl rfl rfl rfl ((hs.keep E35 (fun _ h => h)).addr (by omega)) rfl i42 ?_
    refine t_load Try.isAgg24 rfl rfl rfl (((hs.keep E35 (fun _ h => h)).at_ k (by omega)) 0 _ rfl) ?_
    refine t_len Try.underlying24 rfl rfl rfl rfl ?_
    refine t_cmp rfl rfl rfl rfl rfl ?_
    refine t_move rfl rfl rfl ?_
    refine t_splitp 25 rfl (fun g25 => ?_) (fun g25 => ?_)
    · -- .bool (decide (8 < (((nth rows k).xs).length : Int)))
      refine t_skip rfl rfl rfl ?_
      refine t_skip rfl rfl rfl ?_
      refine t_skip rfl rfl rfl ?_
      refine t_skip rfl rfl rfl ?_
      refine t_pick_t rfl rfl rfl rfl ?_
      refine t_nil' ?_
      refine hK41 _ _ ?_
      refine c_cond_t rfl ?_
      refine c_seq fun K43 hK43 => ?_
      refine c_region ?_
      refine t_call (vs := []) own16 rfl rfl rfl rfl (known_c _) (fun v44 w45 r47 => ?_)
      obtain ⟨rfl, u46⟩ := r47
      have zu46 := u46.size
      have E48 := E35.next u46 (fun _ _ h => h.elim)
      refine t_assign rfl rfl rfl ?_
      refine t_nil' ?_
      refine hK43 _ _ ?_
      refine c_ret ?_
      refine f_ret1 (v := .bool true) Try.results7 rfl ?_
      exact ⟨rfl, E48⟩
    · -- not .bool (decide (8 < (((nth rows k).xs).length : Int)))
      refine t_field Try.underlying64 rfl Try.sizeOf62 (4) rfl rfl rfl rfl ?_
      refine t_load Try.isAgg62 rfl rfl rfl (B38.get rfl) ?_
      refine t_len Try.underlying62 rfl rfl rfl rfl ?_
      refine t_cmp rfl rfl rfl rfl rfl ?_
      refine t_pick_f rfl rfl rfl rfl ?_
      refine t_nil' ?_
      refine hK41 _ _ ?_
      refine c_condp rfl (fun g30 => ?_) (fun g30 => ?_)
      · -- .bool (decide (15 < (rows.length : Int)))
        refine c_seq fun K49 hK49 => ?_
        refine c_region ?_
        refine t_call (vs := []) own16 rfl rfl rfl rfl (known_c _) (fun v50 w51 r53 => ?_)
        obtain ⟨rfl, u52⟩ := r53
        have zu52 := u52.size
        have E54 := E35.next u52 (fun _ _ h => h.elim)
        refine t_assign rfl rfl rfl ?_
        refine t_nil' ?_
        refine hK49 _ _ ?_
        refine c_ret ?_
        refine f_ret1 (v := .bool true) Try.results7 rfl ?_
        exact ⟨rfl, E54⟩
      · -- not .bool (decide (15 < (rows.length : Int)))
        refine c_skip ?_
        refine hK40 _ _ ?_
        refine WC.weak [(1, .pointer (some ⟨bk2, 0, none⟩)), (3, .pointer (some ⟨bk8, 0, none⟩)), (4, .int .i64 (k : Int)), (11, .int .i64 (k : Int)), (12, .pointer (some ⟨bk2, 4, none⟩)), (13, .slice ao rows.length cap), (14, .int .i64 (rows.length : Int)), (15, .bool (decide ((k : Int) < (rows.length : Int)))), (18, .pointer (some ⟨bk2, 4, none⟩)), (19, .slice ao rows.length cap), (20, .int .i64 (k : Int)), (21, .pointer (some ⟨b, o + k * 1, none⟩)), (22, .slice ((nth rows k).ao) (((nth rows k).xs).length) ((nth rows k).cap)), (23, .int .i64 (((nth rows k).xs).length : Int)), (24, .bool (decide (8 < (((nth rows k).xs).length : Int)))), (25, .bool false), (26, .pointer (some ⟨bk2, 4, none⟩)), (27, .slice ao rows.length cap), (28, .int .i64 (rows.length : Int)), (29, .bool (decide (15 < (rows.length : Int)))), (30, .bool (decide (15 < (rows.length : Int))))] ⟨rfl, rfl, rfl, rfl, rfl, rfl, rfl, rfl, rfl, rfl, rfl, rfl, rfl, rfl, rfl, rfl, rfl, rfl, rfl, rfl, rfl, trivial⟩ ?_
        refine c_drawnS follows 12 9 [some (32, some (.pointer (some ⟨bk8, 4, none⟩))), some (33, some (.slice ao2 rs.length c2)), some (34, some (.pointer (some ⟨bk2, 4, none⟩))), some (35, some (.slice ao rows.length cap)), some (36, some (.int .i64 (k : Int))), some (37, some (.pointer (some ⟨b, o + k * 1, none⟩))), some (38, some (.slice ((nth rows k).ao) (((nth rows k).xs).length) ((nth rows k).cap))), some (39, none), some (40, none)] [[], [0], [], [2], [], [3, 4], [5], [6], [7], [1, 8, 7], [0, 1, 2, 3, 4, 5, 6, 7, 8, 9], [10, 9, 9, 0, 1, 2, 3, 4, 5, 6, 7, 8, 9]] (fun D ρ w => Upd (fun _ => False) w25 w ∧ (D 7 = true → ∃ aoC56 bC56 cpC56, ρ 7 = .slice aoC56 ((((nth rows k).xs)).length) cpC56 ∧ (D 8 = false → (Sl encHull 3 w aoC56 bC56 0 ((nth rows k).xs) ∧ w25.heap.size ≤ bC56))) ∧ (D 8 = true → ∃ aoC56 bC56 cpC56 bk62, ρ 8 = .slice (some ⟨bk62, 0, none⟩) 1 1 ∧ w25.heap.size ≤ bk62 ∧ Blk w bk62 24 [.slice aoC56 ((((nth rows k).xs)).length) cpC56] ∧ (Sl encHull 3 w aoC56 bC56 0 ((nth rows k).xs) ∧ w25.heap.size ≤ bC56))) rfl rfl rfl rfl (by kernel_rfl) (by kernel_rfl) (by kernel_rfl) ⟨(Upd.drew _).to, (fun h => by cases h), (fun h => by cases h)⟩ ⟨?_, ?_, ?_, ?_, ?_, ?_, ?_, ?_, ?_, trivial⟩ ?_
        · exact fun D ρ w hcD hnD hdD hW => ⟨[(3, .pointer (some ⟨bk8, 0, none⟩))], ⟨.inr ⟨rfl, rfl⟩, trivial⟩, fun Lr => t_field Try.underlying64 rfl Try.sizeOf62 (4) rfl rfl rfl rfl (t_nil' fun a ha => ⟨rfl, _, (fun v' h => by cases h; rfl), ha, hW⟩)⟩
        · -- 1
          intro D ρ w67 hcD hnD hdD hW
          obtain ⟨u68, F69, F70⟩ := hW
          have zu68 := u68.size
          have E71 := E35.next u68 (fun _ _ h => h.elim)
          refine ⟨[(32, .pointer (some ⟨bk8, 4, none⟩))], ⟨.inl ⟨0, some (.pointer (some ⟨bk8, 4, none⟩)), rfl, rfl, rfl⟩, trivial⟩, fun Lr => ?_⟩
          show WL _ _ _ _ _ _ _ ((32, .pointer (some ⟨bk8, 4, none⟩)) :: Lr) _
          have B72 := (I27.keep u68 (fun h => h))
          refine t_load Try.isAgg62 rfl rfl rfl (B72.get rfl) ?_
          refine t_nil' ?_
          exact fun a ha => ⟨rfl, _, (fun v' h => by cases h; rfl), ha, ⟨u68, F69, F70⟩⟩
        · exact fun D ρ w hcD hnD hdD hW => ⟨[(1, .pointer (some ⟨bk2, 0, none⟩))], ⟨.inr ⟨rfl, rfl⟩, trivial⟩, fun Lr => t_field Try.underlying64 rfl Try.sizeOf62 (4) rfl rfl rfl rfl (t_nil' fun a ha => ⟨rfl, _, (fun v' h => by cases h; rfl), ha, hW⟩)⟩
        · -- 3
          intro D ρ w73 hcD hnD hdD hW
          obtain ⟨u74, F75, F76⟩ := hW
          have zu74 := u74.size
          have E77 := E35.next u74 (fun _ _ h => h.elim)
          refine ⟨[(34, .pointer (some ⟨bk2, 4, none⟩))], ⟨.inl ⟨2, some (.pointer (some ⟨bk2, 4, none⟩)), rfl, rfl, rfl⟩, trivial⟩, fun Lr => ?_⟩
          show WL _ _ _ _ _ _ _ ((34, .pointer (some ⟨bk2, 4, none⟩)) :: Lr) _
          have B78 := (B38.keep u74 (fun h => h))
          refine t_load Try.isAgg62 rfl rfl rfl (B78.get rfl) ?_
          refine t_nil' ?_
          exact fun a ha => ⟨rfl, _, (fun v' h => by cases h; rfl), ha, ⟨u74, F75, F76⟩⟩
        · exact fun D ρ w hcD hnD hdD hW => ⟨[(4, .int .i64 (k : Int))], ⟨.inr ⟨rfl, rfl⟩, trivial⟩, fun Lr => t_move rfl rfl rfl (t_nil' fun a ha => ⟨rfl, _, (fun v' h => by cases h; rfl), ha, hW⟩)⟩
        · -- 5
          intro D ρ w79 hcD hnD hdD hW
          obtain ⟨u80, F81, F82⟩ := hW
          have zu80 := u80.size
          have E83 := E35.next u80 (fun _ _ h => h.elim)
          refine ⟨[(35, .slice ao rows.length cap), (36, .int .i64 (k : Int))], ⟨.inl ⟨3, some (.slice ao rows.length cap), rfl, rfl, rfl⟩, .inl ⟨4, some (.int .i64 (k : Int)), rfl, rfl, rfl⟩, trivial⟩, fun Lr => ?_⟩
          show WL _ _ _ _ _ _ _ ((35, .slice ao rows.length cap) :: (36, .int .i64 (k : Int)) :: Lr) _
          have i84 : k < rows.length := (by omega)
          refine t_index (j := k) Try.underlying62 Try.sizeOf24 rfl rfl rfl rfl ((hs.keep E83 (fun _ h => h)).addr (by omega)) rfl i84 ?_
          refine t_nil' ?_
          exact fun a ha => ⟨rfl, _, (fun v' h => by cases h; rfl), ha, ⟨u80, F81, F82⟩⟩
        · -- 6
          intro D ρ w85 hcD hnD hdD hW
          obtain ⟨u86, F87, F88⟩ := hW
          have zu86 := u86.size
          have E89 := E35.next u86 (fun _ _ h => h.elim)
          refine ⟨[(37, .pointer (some ⟨b, o + k * 1, none⟩))], ⟨.inl ⟨5, some (.pointer (some ⟨b, o + k * 1, none⟩)), rfl, rfl, rfl⟩, trivial⟩, fun Lr => ?_⟩
          show WL _ _ _ _ _ _ _ ((37, .pointer (some ⟨b, o + k * 1, none⟩)) :: Lr) _
          refine t_load Try.isAgg24 rfl rfl rfl (((hs.keep E89 (fun _ h => h)).at_ k (by omega)) 0 _ rfl) ?_
          refine t_nil' ?_
          exact fun a ha => ⟨rfl, _, (fun v' h => by cases h; rfl), ha, ⟨u86, F87, F88⟩⟩
        · -- 7
          intro D ρ w90 hcD hnD hdD hW
          obtain ⟨u91, F92, F93⟩ := hW
          have zu91 := u91.size
          have E94 := E35.next u91 (fun _ _ h => h.elim)
          refine ⟨[(38, .slice ((nth rows k).ao) (((nth rows k).xs).length) ((nth rows k).cap))], ⟨.inl ⟨6, some (.slice ((nth rows k).ao) (((nth rows k).xs).length) ((nth rows k).cap)), rfl, rfl, rfl⟩, trivial⟩, fun Lr => ?_⟩
          show WL _ _ _ _ _ _ _ ((38, .slice ((nth rows k).ao) (((nth rows k).xs).length) ((nth rows k).cap)) :: Lr) _
          refine t_call (vs := [.slice ((nth rows k).ao) (((nth rows k).xs).length) ((nth rows k).cap)]) own17 rfl rfl rfl rfl (hulls_c ((nth rows k).xs) ((nth rows k).ao) (nth rows k).b ((nth rows k).o) ((nth rows k).cap) _ ((hrows (nth rows k) (nth_mem (by omega))).keep E94 (fun _ h => h)) (by omega)) (fun v96 w97 r99 => ?_)
          obtain ⟨⟨aoC95, bC95, cpC95, rfl, hC95, gebC95⟩, u98⟩ := r99
          have zu98 := u98.size
          have E100 := E94.next u98 (fun _ _ h => h.elim)
          refine t_nil' ?_
          exact fun a ha => ⟨rfl, _, (fun v' h => by cases h), ha, ⟨(u91.next u98 (fun _ _ h => h.elim)), (fun _ => ⟨aoC95, bC95, cpC95, rfl, fun _ => ⟨hC95, by omega⟩⟩), (fun h => by obtain ⟨aoC56, bC56, cpC56, b, e, hge, hB, hF7⟩ := F93 h; exact ⟨aoC56, bC56, cpC56, b, e, hge, (hB.keep u98 (fun h => h)), ⟨(hF7.1.keep u98 (fun _ h => h)), hF7.2⟩⟩)⟩⟩
        · -- 8
          intro D ρ w101 hcD hnD hdD hW
          obtain ⟨u102, F103, F104⟩ := hW
          have zu102 := u102.size
          have E105 := E35.next u102 (fun _ _ h => h.elim)
          obtain ⟨aoC56, bC56, cpC56, e106, H107⟩ := F103 (hdD 7 rfl)
          have H108 := H107 hnD
          have hsH108 := H108.1
          have hgH108 := H108.2
          refine ⟨[(39, .slice aoC56 ((((nth rows k).xs)).length) cpC56)], ⟨.inl ⟨7, none, rfl, rfl, e106.symm⟩, trivial⟩, fun Lr => ?_⟩
          show WL _ _ _ _ _ _ _ ((39, .slice aoC56 ((((nth rows k).xs)).length) cpC56) :: Lr) _
          refine t_bslice (ps := [(0, .slice aoC56 ((((nth rows k).xs)).length) cpC56)]) (cs := [.slice aoC56 ((((nth rows k).xs)).length) cpC56]) (e := 24) rfl rfl ⟨rfl, rfl⟩ (fun w => by kernel_rfl) (fun bk109 w110 ebk109 sbk109 B111 u112 => ?_)
          have zu112 := u112.size
          have E113 := E105.next u112 (fun _ _ h => h.elim)
          refine t_nil' ?_
          exact fun a ha => ⟨rfl, _, (fun v' h => by cases h), ha, ⟨(u102.next u112 (fun _ _ h => h.elim)), (fun h => by obtain ⟨aoC56, bC56, cpC56, e, _⟩ := F103 h; exact ⟨aoC56, bC56, cpC56, e, fun h => by cases h⟩), (fun _ => ⟨aoC56, bC56, cpC56, bk109, rfl, (by omega), (by show Blk w110 bk109 24 [.slice aoC56 ((((nth rows k).xs)).length) cpC56]; exact B111), ⟨(H108.1.keep u112 (fun _ h => h)), H108.2⟩⟩)⟩⟩
        intro ρ w114 hW
        obtain ⟨u115, F116, F117⟩ := hW
        have zu115 := u115.size
        have E118 := E35.next u115 (fun _ _ h => h.elim)
        obtain ⟨aoC56, bC56, cpC56, bk62, e120, gebk62, B121, fcB121_7⟩ := F117 rfl
        have hsfcB121_7 := fcB121_7.1
        have hgfcB121_7 := fcB121_7.2
        have B121 : Blk w114 bk62 24 [.slice aoC56 ((((nth rows k).xs)).length) cpC56] := B121
        have lt_bk62 := B121.lt
        refine t_weak [(1, .pointer (some ⟨bk2, 0, none⟩)), (3, .pointer (some ⟨bk8, 0, none⟩)), (4, .int .i64 (k : Int)), (11, .int .i64 (k : Int)), (12, .pointer (some ⟨bk2, 4, none⟩)), (13, .slice ao rows.length cap), (14, .int .i64 (rows.length : Int)), (15, .bool (decide ((k : Int) < (rows.length : Int)))), (18, .pointer (some ⟨bk2, 4, none⟩)), (19, .slice ao rows.length cap), (20, .int .i64 (k : Int)), (21, .pointer (some ⟨b, o + k * 1, none⟩)), (22, .slice ((nth rows k).ao) (((nth rows k).xs).length) ((nth rows k).cap)), (23, .int .i64 (((nth rows k).xs).length : Int)), (24, .bool (decide (8 < (((nth rows k).xs).length : Int)))), (25, .bool false), (26, .pointer (some ⟨bk2, 4, none⟩)), (27, .slice ao rows.length cap), (28, .int .i64 (rows.length : Int)), (29, .bool (decide (15 < (rows.length : Int)))), (30, .bool (decide (15 < (rows.length : Int)))), (32, .pointer (some ⟨bk8, 4, none⟩)), (33, .slice ao2 rs.length c2), (34, .pointer (some ⟨bk2, 4, none⟩)), (35, .slice ao rows.length cap), (36, .int .i64 (k : Int)), (37, .pointer (some ⟨b, o + k * 1, none⟩)), (38, .slice ((nth rows k).ao) (((nth rows k).xs).length) ((nth rows k).cap)), (40, .slice (some ⟨bk62, 0, none⟩) 1 1)] ⟨rfl, rfl, rfl, rfl, rfl, rfl, rfl, rfl, rfl, rfl, rfl, rfl, rfl, rfl, rfl, rfl, rfl, rfl, rfl, rfl, rfl, rfl, rfl, rfl, rfl, rfl, rfl, rfl, (look_nd (j := 8) rfl rfl rfl e120), trivial⟩ ?_
        have D122 := (hacc.keep u115 (fun _ h => h))
        have D123 := (hfam.keep u115 (fun _ _ _ _ h => h))
        have hnf := D123
        have hns := hsfcB121_7
        have hna := D122
        have hnl := hna.lt
        refine t_append (z := .slice none 0 0) (bytes := 24) (k := 1) (base := w18.heap.size) (⟨aoC56, bC56, 0, cpC56, (nth rows k).xs⟩ : HRow) Try.underlying62 (by kernel_rfl) rfl (by decide) (fun _ => rfl) (by intro x; simp [encHRow, Value.oneCell']) rfl rfl rfl rfl D122 B121 (by omega) (by omega) (by decide) (fun ao124 gb125 cp126 w127 A128 u129 gegb125 lngb125 => ?_)
        have zu129 := u129.size
        have E130 := E118.next u129 (fun i hi (h : (i = g2 ∧ w18.heap.size ≤ i)) => show False by first | omega | assumption)
        have lt_gb125 := A128.lt
        refine t_field Try.underlying64 rfl Try.sizeOf62 (4) rfl rfl rfl rfl ?_
        have B131 := ((I27.keep u115 (fun h => h)).keep u129 (show ¬ ((bk8 = g2 ∧ w18.heap.size ≤ bk8)) by first | omega | assumption))
        refine t_store (vs := [.slice ao124 (((rs ++ [(⟨aoC56, bC56, 0, cpC56, (nth rows k).xs⟩ : HRow)])).length) cp126]) Try.sizeOf62 rfl rfl rfl B131 rfl rfl (Nat.le_of_ble_eq_true rfl) (by simp [Value.oneCell']) (fun w132 sw132 B134 u133 => ?_)
        have zu133 := u133.size
        have E135 := E130.next u133 (fun i hi (h : i = bk8) => show False by first | omega | assumption)
        have B134 : Blk w132 bk8 64 [.int .i64 boat.len, .int .i64 boat.wid, .int .i64 boat.mass, .int .i64 power, .slice ao124 (((rs ++ [(⟨aoC56, bC56, 0, cpC56, (nth rows k).xs⟩ : HRow)])).length) cp126] := B134
        refine t_nil' ?_
        refine hK39 _ _ ?_
        refine c_region ?_
        refine t_move rfl rfl rfl ?_
        refine t_ari rfl rfl rfl rfl rfl (by omega) ?_
        refine t_assign rfl rfl rfl ?_
        refine t_nil' ?_
        have D136 := (A128.keep u133 (fun hb => show ¬ (gb125 = bk8) by first | omega | assumption))
        have D137 := (((hnf.keep u129 (fun i h1 h2 h3 => show ¬ ((i = g2 ∧ w18.heap.size ≤ i)) by omega)).snoc (⟨aoC56, bC56, 0, cpC56, (nth rows k).xs⟩ : HRow) gb125 w127.heap.size (by omega) (hns.keep u129 (fun hp => by have hlt := hns.lt hp; show ¬ ((bC56 = g2 ∧ w18.heap.size ≤ bC56)); omega)) (fun hp => by have hlt := hns.lt hp; show w18.heap.size ≤ bC56 ∧ bC56 ≠ gb125 ∧ bC56 < w127.heap.size; omega) (by omega)).keep u133 (fun i h1 h2 h3 => show ¬ (i = bk8) by omega))
        exact hK24 (k + 1, ao124, gb125, cp126, (rs ++ [(⟨aoC56, bC56, 0, cpC56, (nth rows k).xs⟩ : HRow)])) _ _ (by show rows.length - (k + 1) < rows.length - k; omega) ⟨rfl, rfl, rfl, trivial⟩ ⟨(((u26.next u115 (fun _ _ h => h.elim)).next u129 (fun i hi (h : (i = g2 ∧ w18.heap.size ≤ i)) => show i = bk8 by first | omega | assumption)).next u133 (fun i hi (h : i = bk8) => show i = bk8 by first | omega | assumption)), B134, (by omega), (fun _ => by omega), (fun r hr => by rw [take_nth (by omega)] at hr; rcases List.mem_append.1 hr with h | h; (exact h8 r h); (have e : r = nth rows k := by simpa using h); subst e; omega), (by rw [List.map_append, hmap, take_nth (by omega), List.map_append, List.map_singleton, List.map_singleton]), D136, (D137.mono (by omega)), (by show (rs ++ [_]).length = k + 1; simp [hrl])⟩
  · -- not .bool (decide ((k : Int) < (rows.length : Int)))
    have hmapall : rs.map (·.xs) = rows.map (·.xs) := by rw [hmap, List.take_of_length_le (by omega)]
    have h8all : ∀ r ∈ rows, r.xs.length ≤ 8 := by rw [List.take_of_length_le (by omega)] at h8; exact h8
    have h15all : rows.length ≤ 15 := by rcases Nat.eq_zero_or_pos k with h | h; (omega); exact h15 h
    have hrsl := map_len hmapall
    refine c_exit ?_
    refine hK22 _ _ ?_
    refine c_seq fun K138 hK138 => ?_
    refine c_region ?_
    refine t_loadN (vs := [.int .i64 boat.len, .int .i64 boat.wid, .int .i64 boat.mass, .int .i64 power, .slice ao2 rs.length c2]) Try.isAgg64 Try.sizeOf64 rfl rfl rfl (I27.at.sub 0 5) rfl ?_
    refine t_call (vs := [.agg #[.int .i64 boat.len, .int .i64 boat.wid, .int .i64 boat.mass, .int .i64 power, .slice ao2 rs.length c2]]) own37 rfl rfl rfl rfl (MeasureAs_c boat power rs ao2 g2 0 c2 _ (hacc.sl (fun _ => rfl)) (fun r hr => (hfam r hr).1) (by omega) (len_of_map hmapall (fun r hr => Nat.le_trans (h8all r hr) (by decide))) _ hmapall) (fun v139 w140 r142 => ?_)
    obtain ⟨rfl, u141⟩ := r142
    have zu141 := u141.size
    have E143 := E35.next u141 (fun _ _ h => h.elim)
    refine t_move rfl rfl rfl ?_
    refine t_extract (vs := [.agg #[.int .i64 ((MeaS boat power (xssOf rows)).len), .int .i64 ((MeaS boat power (xssOf rows)).wid), .int .i64 ((MeaS boat power (xssOf rows)).mass), .int .i64 ((MeaS boat power (xssOf rows)).hulls)], .int .i64 (MeaE boat power (xssOf rows))]) rfl rfl rfl rfl ?_
    refine t_extract (vs := [.agg #[.int .i64 ((MeaS boat power (xssOf rows)).len), .int .i64 ((MeaS boat power (xssOf rows)).wid), .int .i64 ((MeaS boat power (xssOf rows)).mass), .int .i64 ((MeaS boat power (xssOf rows)).hulls)], .int .i64 (MeaE boat power (xssOf rows))]) rfl rfl rfl rfl ?_
    refine t_alloc (cs := [.int .i64 0, .int .i64 0, .int .i64 0, .int .i64 0]) Try.zeroValue66 rfl rfl rfl (fun bk144 w145 ebk144 sbk144 B146 u147 => ?_)
    have zu147 := u147.size
    have E148 := E143.next u147 (fun _ _ h => h.elim)
    refine t_store (vs := [.int .i64 ((MeaS boat power (xssOf rows)).len), .int .i64 ((MeaS boat power (xssOf rows)).wid), .int .i64 ((MeaS boat power (xssOf rows)).mass), .int .i64 ((MeaS boat power (xssOf rows)).hulls)]) Try.sizeOf66 rfl rfl rfl B146 rfl rfl (Nat.le_of_ble_eq_true rfl) (by simp [Value.oneCell']) (fun w149 sw149 B151 u150 => ?_)
    have zu150 := u150.size
    have E152 := E148.next u150 (fun i hi (h : i = bk144) => show False by first | omega | assumption)
    have B151 : Blk w149 bk144 66 [.int .i64 ((MeaS boat power (xssOf rows)).len), .int .i64 ((MeaS boat power (xssOf rows)).wid), .int .i64 ((MeaS boat power (xssOf rows)).mass), .int .i64 ((MeaS boat power (xssOf rows)).hulls)] := B151
    refine t_assign rfl rfl rfl ?_
    refine t_nil' ?_
    refine hK138 _ _ ?_
    refine c_seq fun K153 hK153 => ?_
    refine c_seq fun K154 hK154 => ?_
    refine c_region ?_
    refine t_assign rfl rfl rfl ?_
    refine t_nil' ?_
    refine hK154 _ _ ?_
    refine c_block ?_
    refine c_loop (γ := Nat) (fun i => [(1, .pointer (some ⟨bk2, 0, none⟩)), (3, .pointer (some ⟨bk8, 0, none⟩)), (5, .pointer (some ⟨bk144, 0, none⟩)), (6, .int .i64 (MeaE boat power (xssOf rows))), (7, .int .i64 (i : Int))]) (fun i w => Upd (fun _ => False) w149 w ∧ (i ≤ rows.length)) (fun i => rows.length - i) 0 ⟨rfl, rfl, rfl, rfl, rfl, trivial⟩ ⟨Upd.refl _ _, Nat.zero_le _⟩ ?_
    intro i w156 hW K155 hK155
    obtain ⟨u157, I158⟩ := hW
    have zu157 := u157.size
    have E159 := E152.next u157 (fun _ _ h => h.elim)
    have hi := I158; clear I158
    refine c_seq fun K160 hK160 => ?_
    refine c_seq fun K161 hK161 => ?_
    refine c_region ?_
    refine t_move rfl rfl rfl ?_
    refine t_field Try.underlying64 rfl Try.sizeOf62 (4) rfl rfl rfl rfl ?_
    have B162 := ((((B38.keep u141 (fun h => h)).keep u147 (fun h => h)).keep u150 (show ¬ (bk2 = bk144) by first | omega | assumption)).keep u157 (fun h => h))
    refine t_load Try.isAgg62 rfl rfl rfl (B162.get rfl) ?_
    refine t_len Try.underlying62 rfl rfl rfl rfl ?_
    refine t_cmp rfl rfl rfl rfl rfl ?_
    refine t_nil' ?_
    refine hK161 _ _ ?_
    refine c_condp rfl (fun g52 => ?_) (fun g52 => ?_)
    · -- .bool (decide ((i : Int) < (rows.length : Int)))
      refine c_skip ?_
      refine hK160 _ _ ?_
      refine c_seq fun K163 hK163 => ?_
      refine c_block ?_
      refine c_seq fun K164 hK164 => ?_
      refine c_region ?_
      refine t_assign rfl rfl rfl ?_
      refine t_nil' ?_
      refine hK164 _ _ ?_
      refine c_block ?_
      have hq := map_nth_xs hmapall (show i < rows.length by omega)
      have hi8 := h8all _ (nth_mem (xs := rows) (i := i) (by omega))
      refine c_loop (γ := Nat) (fun j => [(1, .pointer (some ⟨bk2, 0, none⟩)), (3, .pointer (some ⟨bk8, 0, none⟩)), (5, .pointer (some ⟨bk144, 0, none⟩)), (6, .int .i64 (MeaE boat power (xssOf rows))), (7, .int .i64 (i : Int)), (8, .int .i64 (j : Int)), (48, .int .i64 (i : Int)), (49, .pointer (some ⟨bk2, 4, none⟩)), (50, .slice ao rows.length cap), (51, .int .i64 (rows.length : Int)), (52, .bool (decide ((i : Int) < (rows.length : Int))))]) (fun j w => Upd (fun _ => False) w156 w ∧ (j ≤ (nth rows i).xs.length)) (fun j => (nth rows i).xs.length - j) 0 ⟨rfl, rfl, rfl, rfl, rfl, rfl, rfl, rfl, rfl, rfl, rfl, trivial⟩ ⟨Upd.refl _ _, Nat.zero_le _⟩ ?_
      intro j w166 hW K165 hK165
      obtain ⟨u167, I168⟩ := hW
      have zu167 := u167.size
      have E169 := E159.next u167 (fun _ _ h => h.elim)
      have hj := I168; clear I168
      refine c_seq fun K170 hK170 => ?_
      refine c_seq fun K171 hK171 => ?_
      refine c_region ?_
      refine t_move rfl rfl rfl ?_
      refine t_field Try.underlying64 rfl Try.sizeOf62 (4) rfl rfl rfl rfl ?_
      have B172 := (B162.keep u167 (fun h => h))
      refine t_load Try.isAgg62 rfl rfl rfl (B172.get rfl) ?_
      refine t_move rfl rfl rfl ?_
      have i173 : i < rows.length := (by omega)
      refine t_index (j := i) Try.underlying62 Try.sizeOf24 rfl rfl rfl rfl ((hs.keep E169 (fun _ h => h)).addr (by omega)) rfl i173 ?_
      refine t_load Try.isAgg24 rfl rfl rfl (((hs.keep E169 (fun _ h => h)).at_ i (by omega)) 0 _ rfl) ?_
      refine t_len Try.underlying24 rfl rfl rfl rfl ?_
      refine t_cmp rfl rfl rfl rfl rfl ?_
      refine t_nil' ?_
      refine hK171 _ _ ?_
      refine c_condp rfl (fun g62 => ?_) (fun g62 => ?_)
      · -- .bool (decide ((j : Int) < (((nth rows i).xs).length : Int)))
        refine c_skip ?_
        refine hK170 _ _ ?_
        refine c_seq fun K174 hK174 => ?_
        refine c_block ?_
        refine c_seq fun K175 hK175 => ?_
        refine WC.weak [(1, .pointer (some ⟨bk2, 0, none⟩)), (3, .pointer (some ⟨bk8, 0, none⟩)), (5, .pointer (some ⟨bk144, 0, none⟩)), (6, .int .i64 (MeaE boat power (xssOf rows))), (7, .int .i64 (i : Int)), (8, .int .i64 (j : Int)), (48, .int .i64 (i : Int)), (49, .pointer (some ⟨bk2, 4, none⟩)), (50, .slice ao rows.length cap), (51, .int .i64 (rows.length : Int)), (52, .bool (decide ((i : Int) < (rows.length : Int)))), (55, .int .i64 (j : Int)), (56, .pointer (some ⟨bk2, 4, none⟩)), (57, .slice ao rows.length cap), (58, .int .i64 (i : Int)), (59, .pointer (some ⟨b, o + i * 1, none⟩)), (60, .slice ((nth rows i).ao) (((nth rows i).xs).length) ((nth rows i).cap)), (61, .int .i64 (((nth rows i).xs).length : Int)), (62, .bool (decide ((j : Int) < (((nth rows i).xs).length : Int))))] ⟨rfl, rfl, rfl, rfl, rfl, rfl, rfl, rfl, rfl, rfl, rfl, rfl, rfl, rfl, rfl, rfl, rfl, rfl, rfl, trivial⟩ ?_
        refine c_drawn follows 17 [some (65, some (.pointer (some ⟨bk8, 4, none⟩))), some (66, some (.slice ao2 rs.length c2)), some (67, some (.int .i64 (i : Int))), some (68, some (.pointer (some ⟨g2, 0 + i * 1, none⟩))), some (69, some (.slice ((nth rs i).ao) (((nth rs i).xs).length) ((nth rs i).cap))), some (70, some (.int .i64 (j : Int))), some (71, some (.pointer (some ⟨(nth rs i).b, (nth rs i).o + j * 3, none⟩))), some (72, some (.agg #[.int .i64 ((nth ((nth rs i).xs) j).len), .int .i64 ((nth ((nth rs i).xs) j).wid), .int .i64 ((nth ((nth rs i).xs) j).mass)])), some (73, some (.pointer (some ⟨bk2, 4, none⟩))), some (74, some (.slice ao rows.length cap)), some (75, some (.int .i64 (i : Int))), some (76, some (.pointer (some ⟨b, o + i * 1, none⟩))), some (77, some (.slice ((nth rows i).ao) (((nth rows i).xs).length) ((nth rows i).cap))), some (78, some (.int .i64 (j : Int))), some (79, some (.pointer (some ⟨(nth rows i).b, (nth rows i).o + j * 3, none⟩))), some (80, some (.agg #[.int .i64 ((nth ((nth rows i).xs) j).len), .int .i64 ((nth ((nth rows i).xs) j).wid), .int .i64 ((nth ((nth rows i).xs) j).mass)])), some (81, some (.bool false))] [[], [0], [], [1, 2], [3], [], [4, 5], [6], [], [8], [], [9, 10], [11], [], [12, 13], [14], [7, 15]] (fun _ _ w => Upd (fun _ => False) w166 w) rfl rfl rfl (by kernel_rfl) (by kernel_rfl) (Upd.drew _).to ⟨?_, ?_, ?_, ?_, ?_, ?_, ?_, ?_, ?_, ?_, ?_, ?_, ?_, ?_, ?_, ?_, ?_, trivial⟩ ?_
        · exact fun D ρ w hcD hnD hdD hW => ⟨[(3, .pointer (some ⟨bk8, 0, none⟩))], ⟨.inr ⟨rfl, rfl⟩, trivial⟩, fun Lr => t_field Try.underlying64 rfl Try.sizeOf62 (4) rfl rfl rfl rfl (t_nil' fun a ha => ⟨rfl, _, (fun v' h => by cases h; rfl), ha, hW⟩)⟩
        · -- 1
          intro D ρ w183 hcD hnD hdD hW
          have zhW := hW.size
          have E185 := E169.next hW (fun _ _ h => h.elim)
          refine ⟨[(65, .pointer (some ⟨bk8, 4, none⟩))], ⟨.inl ⟨0, some (.pointer (some ⟨bk8, 4, none⟩)), rfl, rfl, rfl⟩, trivial⟩, fun Lr => ?_⟩
          show WL _ _ _ _ _ _ _ ((65, .pointer (some ⟨bk8, 4, none⟩)) :: Lr) _
          have B186 := ((((((I27.keep u141 (fun h => h)).keep u147 (fun h => h)).keep u150 (show ¬ (bk8 = bk144) by first | omega | assumption)).keep u157 (fun h => h)).keep u167 (fun h => h)).keep hW (fun h => h))
          refine t_load Try.isAgg62 rfl rfl rfl (B186.get rfl) ?_
          refine t_nil' ?_
          exact fun a ha => ⟨rfl, _, (fun v' h => by cases h; rfl), ha, hW⟩
        · exact fun D ρ w hcD hnD hdD hW => ⟨[(7, .int .i64 (i : Int))], ⟨.inr ⟨rfl, rfl⟩, trivial⟩, fun Lr => t_move rfl rfl rfl (t_nil' fun a ha => ⟨rfl, _, (fun v' h => by cases h; rfl), ha, hW⟩)⟩
        · -- 3
          intro D ρ w187 hcD hnD hdD hW
          have zhW := hW.size
          have E189 := E169.next hW (fun _ _ h => h.elim)
          refine ⟨[(66, .slice ao2 rs.length c2), (67, .int .i64 (i : Int))], ⟨.inl ⟨1, some (.slice ao2 rs.length c2), rfl, rfl, rfl⟩, .inl ⟨2, some (.int .i64 (i : Int)), rfl, rfl, rfl⟩, trivial⟩, fun Lr => ?_⟩
          show WL _ _ _ _ _ _ _ ((66, .slice ao2 rs.length c2) :: (67, .int .i64 (i : Int)) :: Lr) _
          have D190 := ((((((hacc.keep u141 (fun _ h => h)).keep u147 (fun _ h => h)).keep u150 (fun hb => show ¬ (g2 = bk144) by first | omega | assumption)).keep u157 (fun _ h => h)).keep u167 (fun _ h => h)).keep hW (fun _ h => h))
          have i191 : i < rs.length := (by omega)
          refine t_index (j := i) Try.underlying62 Try.sizeOf24 rfl rfl rfl rfl ((D190.sl (fun _ => rfl)).addr (by omega)) rfl i191 ?_
          refine t_nil' ?_
          exact fun a ha => ⟨rfl, _, (fun v' h => by cases h; rfl), ha, hW⟩
        · -- 4
          intro D ρ w192 hcD hnD hdD hW
          have zhW := hW.size
          have E194 := E169.next hW (fun _ _ h => h.elim)
          refine ⟨[(68, .pointer (some ⟨g2, 0 + i * 1, none⟩))], ⟨.inl ⟨3, some (.pointer (some ⟨g2, 0 + i * 1, none⟩)), rfl, rfl, rfl⟩, trivial⟩, fun Lr => ?_⟩
          show WL _ _ _ _ _ _ _ ((68, .pointer (some ⟨g2, 0 + i * 1, none⟩)) :: Lr) _
          have D195 := ((((((hacc.keep u141 (fun _ h => h)).keep u147 (fun _ h => h)).keep u150 (fun hb => show ¬ (g2 = bk144) by first | omega | assumption)).keep u157 (fun _ h => h)).keep u167 (fun _ h => h)).keep hW (fun _ h => h))
          refine t_load Try.isAgg24 rfl rfl rfl (((D195.sl (fun _ => rfl)).at_ i (by omega)) 0 _ rfl) ?_
          refine t_nil' ?_
          exact fun a ha => ⟨rfl, _, (fun v' h => by cases h; rfl), ha, hW⟩
        · exact fun D ρ w hcD hnD hdD hW => ⟨[(8, .int .i64 (j : Int))], ⟨.inr ⟨rfl, rfl⟩, trivial⟩, fun Lr => t_move rfl rfl rfl (t_nil' fun a ha => ⟨rfl, _, (fun v' h => by cases h; rfl), ha, hW⟩)⟩
        · -- 6
          intro D ρ w196 hcD hnD hdD hW
          have zhW := hW.size
          have E198 := E169.next hW (fun _ _ h => h.elim)
          refine ⟨[(69, .slice ((nth rs i).ao) (((nth rs i).xs).length) ((nth rs i).cap)), (70, .int .i64 (j : Int))], ⟨.inl ⟨4, some (.slice ((nth rs i).ao) (((nth rs i).xs).length) ((nth rs i).cap)), rfl, rfl, rfl⟩, .inl ⟨5, some (.int .i64 (j : Int)), rfl, rfl, rfl⟩, trivial⟩, fun Lr => ?_⟩
          show WL _ _ _ _ _ _ _ ((69, .slice ((nth rs i).ao) (((nth rs i).xs).length) ((nth rs i).cap)) :: (70, .int .i64 (j : Int)) :: Lr) _
          have D199 := ((((((hfam.keep u141 (fun _ _ _ _ h => h)).keep u147 (fun _ _ _ _ h => h)).keep u150 (fun i h1 h2 h3 => show ¬ (i = bk144) by omega)).keep u157 (fun _ _ _ _ h => h)).keep u167 (fun _ _ _ _ h => h)).keep hW (fun _ _ _ _ h => h))
          have i200 : j < ((nth rs i).xs).length := (by rw [hq]; omega)
          refine t_index (j := j) Try.underlying24 Try.sizeOf23 rfl rfl rfl rfl ((D199 (nth rs i) (nth_mem (by omega))).1.addr (by omega)) rfl i200 ?_
          refine t_nil' ?_
          exact fun a ha => ⟨rfl, _, (fun v' h => by cases h; rfl), ha, hW⟩
        · -- 7
          intro D ρ w201 hcD hnD hdD hW
          have zhW := hW.size
          have E203 := E169.next hW (fun _ _ h => h.elim)
          refine ⟨[(71, .pointer (some ⟨(nth rs i).b, (nth rs i).o + j * 3, none⟩))], ⟨.inl ⟨6, some (.pointer (some ⟨(nth rs i).b, (nth rs i).o + j * 3, none⟩)), rfl, rfl, rfl⟩, trivial⟩, fun Lr => ?_⟩
          show WL _ _ _ _ _ _ _ ((71, .pointer (some ⟨(nth rs i).b, (nth rs i).o + j * 3, none⟩)) :: Lr) _
          have D204 := ((((((hfam.keep u141 (fun _ _ _ _ h => h)).keep u147 (fun _ _ _ _ h => h)).keep u150 (fun i h1 h2 h3 => show ¬ (i = bk144) by omega)).keep u157 (fun _ _ _ _ h => h)).keep u167 (fun _ _ _ _ h => h)).keep hW (fun _ _ _ _ h => h))
          refine t_loadN (vs := [.int .i64 ((nth ((nth rs i).xs) j).len), .int .i64 ((nth ((nth rs i).xs) j).wid), .int .i64 ((nth ((nth rs i).xs) j).mass)]) Try.isAgg23 Try.sizeOf23 rfl rfl rfl (((D204 (nth rs i) (nth_mem (by omega))).1.at_ j (by rw [hq]; omega)).sub 0 3) rfl ?_
          refine t_nil' ?_
          exact fun a ha => ⟨rfl, _, (fun v' h => by cases h; rfl), ha, hW⟩
        · exact fun D ρ w hcD hnD hdD hW => ⟨[(1, .pointer (some ⟨bk2, 0, none⟩))], ⟨.inr ⟨rfl, rfl⟩, trivial⟩, fun Lr => t_field Try.underlying64 rfl Try.sizeOf62 (4) rfl rfl rfl rfl (t_nil' fun a ha => ⟨rfl, _, (fun v' h => by cases h; rfl), ha, hW⟩)⟩
        · -- 9
          intro D ρ w205 hcD hnD hdD hW
          have zhW := hW.size
          have E207 := E169.next hW (fun _ _ h => h.elim)
          refine ⟨[(73, .pointer (some ⟨bk2, 4, none⟩))], ⟨.inl ⟨8, some (.pointer (some ⟨bk2, 4, none⟩)), rfl, rfl, rfl⟩, trivial⟩, fun Lr => ?_⟩
          show WL _ _ _ _ _ _ _ ((73, .pointer (some ⟨bk2, 4, none⟩)) :: Lr) _
          have B208 := (B172.keep hW (fun h => h))
          refine t_load Try.isAgg62 rfl rfl rfl (B208.get rfl) ?_
          refine t_nil' ?_
          exact fun a ha => ⟨rfl, _, (fun v' h => by cases h; rfl), ha, hW⟩
        · exact fun D ρ w hcD hnD hdD hW => ⟨[(7, .int .i64 (i : Int))], ⟨.inr ⟨rfl, rfl⟩, trivial⟩, fun Lr => t_move rfl rfl rfl (t_nil' fun a ha => ⟨rfl, _, (fun v' h => by cases h; rfl), ha, hW⟩)⟩
        · -- 11
          intro D ρ w209 hcD hnD hdD hW
          have zhW := hW.size
          have E211 := E169.next hW (fun _ _ h => h.elim)
          refine ⟨[(74, .slice ao rows.length cap), (75, .int .i64 (i : Int))], ⟨.inl ⟨9, some (.slice ao rows.length cap), rfl, rfl, rfl⟩, .inl ⟨10, some (.int .i64 (i : Int)), rfl, rfl, rfl⟩, trivial⟩, fun Lr => ?_⟩
          show WL _ _ _ _ _ _ _ ((74, .slice ao rows.length cap) :: (75, .int .i64 (i : Int)) :: Lr) _
          have i212 : i < rows.length := (by omega)
          refine t_index (j := i) Try.underlying62 Try.sizeOf24 rfl rfl rfl rfl ((hs.keep E211 (fun _ h => h)).addr (by omega)) rfl i212 ?_
          refine t_nil' ?_
          exact fun a ha => ⟨rfl, _, (fun v' h => by cases h; rfl), ha, hW⟩
        · -- 12
          intro D ρ w213 hcD hnD hdD hW
          have zhW := hW.size
          have E215 := E169.next hW (fun _ _ h => h.elim)
          refine ⟨[(76, .pointer (some ⟨b, o + i * 1, none⟩))], ⟨.inl ⟨11, some (.pointer (some ⟨b, o + i * 1, none⟩)), rfl, rfl, rfl⟩, trivial⟩, fun Lr => ?_⟩
          show WL _ _ _ _ _ _ _ ((76, .pointer (some ⟨b, o + i * 1, none⟩)) :: Lr) _
          refine t_load Try.isAgg24 rfl rfl rfl (((hs.keep E215 (fun _ h => h)).at_ i (by omega)) 0 _ rfl) ?_
          refine t_nil' ?_
          exact fun a ha => ⟨rfl, _, (fun v' h => by cases h; rfl), ha, hW⟩
        · exact fun D ρ w hcD hnD hdD hW => ⟨[(8, .int .i64 (j : Int))], ⟨.inr ⟨rfl, rfl⟩, trivial⟩, fun Lr => t_move rfl rfl rfl (t_nil' fun a ha => ⟨rfl, _, (fun v' h => by cases h; rfl), ha, hW⟩)⟩
        · -- 14
          intro D ρ w216 hcD hnD hdD hW
          have zhW := hW.size
          have E218 := E169.next hW (fun _ _ h => h.elim)
          refine ⟨[(77, .slice ((nth rows i).ao) (((nth rows i).xs).length) ((nth rows i).cap)), (78, .int .i64 (j : Int))], ⟨.inl ⟨12, some (.slice ((nth rows i).ao) (((nth rows i).xs).length) ((nth rows i).cap)), rfl, rfl, rfl⟩, .inl ⟨13, some (.int .i64 (j : Int)), rfl, rfl, rfl⟩, trivial⟩, fun Lr => ?_⟩
          show WL _ _ _ _ _ _ _ ((77, .slice ((nth rows i).ao) (((nth rows i).xs).length) ((nth rows i).cap)) :: (78, .int .i64 (j : Int)) :: Lr) _
          have i219 : j < ((nth rows i).xs).length := (by omega)
          refine t_index (j := j) Try.underlying24 Try.sizeOf23 rfl rfl rfl rfl (((hrows (nth rows i) (nth_mem (by omega))).keep E218 (fun _ h => h)).addr (by omega)) rfl i219 ?_
          refine t_nil' ?_
          exact fun a ha => ⟨rfl, _, (fun v' h => by cases h; rfl), ha, hW⟩
        · -- 15
          intro D ρ w220 hcD hnD hdD hW
          have zhW := hW.size
          have E222 := E169.next hW (fun _ _ h => h.elim)
          refine ⟨[(79, .pointer (some ⟨(nth rows i).b, (nth rows i).o + j * 3, none⟩))], ⟨.inl ⟨14, some (.pointer (some ⟨(nth rows i).b, (nth rows i).o + j * 3, none⟩)), rfl, rfl, rfl⟩, trivial⟩, fun Lr => ?_⟩
          show WL _ _ _ _ _ _ _ ((79, .pointer (some ⟨(nth rows i).b, (nth rows i).o + j * 3, none⟩)) :: Lr) _
          refine t_loadN (vs := [.int .i64 ((nth ((nth rows i).xs) j).len), .int .i64 ((nth ((nth rows i).xs) j).wid), .int .i64 ((nth ((nth rows i).xs) j).mass)]) Try.isAgg23 Try.sizeOf23 rfl rfl rfl ((((hrows (nth rows i) (nth_mem (by omega))).keep E222 (fun _ h => h)).at_ j (by omega)).sub 0 3) rfl ?_
          refine t_nil' ?_
          exact fun a ha => ⟨rfl, _, (fun v' h => by cases h; rfl), ha, hW⟩
        · exact fun D ρ w hcD hnD hdD hW => ⟨[(72, .agg #[.int .i64 ((nth ((nth rs i).xs) j).len), .int .i64 ((nth ((nth rs i).xs) j).wid), .int .i64 ((nth ((nth rs i).xs) j).mass)]), (80, .agg #[.int .i64 ((nth ((nth rows i).xs) j).len), .int .i64 ((nth ((nth rows i).xs) j).wid), .int .i64 ((nth ((nth rows i).xs) j).mass)])], ⟨.inl ⟨7, some (.agg #[.int .i64 ((nth ((nth rs i).xs) j).len), .int .i64 ((nth ((nth rs i).xs) j).wid), .int .i64 ((nth ((nth rs i).xs) j).mass)]), rfl, rfl, rfl⟩, .inl ⟨15, some (.agg #[.int .i64 ((nth ((nth rows i).xs) j).len), .int .i64 ((nth ((nth rows i).xs) j).wid), .int .i64 ((nth ((nth rows i).xs) j).mass)]), rfl, rfl, rfl⟩, trivial⟩, fun Lr => t_neS (xs := [.int .i64 ((nth ((nth rs i).xs) j).len), .int .i64 ((nth ((nth rs i).xs) j).wid), .int .i64 ((nth ((nth rs i).xs) j).mass)]) (ys := [.int .i64 ((nth ((nth rows i).xs) j).len), .int .i64 ((nth ((nth rows i).xs) j).wid), .int .i64 ((nth ((nth rows i).xs) j).mass)]) (by kernel_rfl) (eqIn23 9998 ((nth ((nth rs i).xs) j).len) ((nth ((nth rs i).xs) j).wid) ((nth ((nth rs i).xs) j).mass) ((nth ((nth rows i).xs) j).len) ((nth ((nth rows i).xs) j).wid) ((nth ((nth rows i).xs) j).mass)) rfl rfl rfl rfl (t_samehd (v := .bool false) (by simp [hq]) (t_nil' fun a ha => ⟨rfl, _, (fun v' h => by cases h; rfl), ha, hW⟩))⟩
        intro ρ w223 hW
        have u224 : Upd (fun _ => False) w166 w223 := hW
        have zu224 := u224.size
        have E225 := E169.next u224 (fun _ _ h => h.elim)
        refine QK.weak [(1, .pointer (some ⟨bk2, 0, none⟩)), (3, .pointer (some ⟨bk8, 0, none⟩)), (5, .pointer (some ⟨bk144, 0, none⟩)), (6, .int .i64 (MeaE boat power (xssOf rows))), (7, .int .i64 (i : Int)), (8, .int .i64 (j : Int)), (48, .int .i64 (i : Int)), (49, .pointer (some ⟨bk2, 4, none⟩)), (50, .slice ao rows.length cap), (51, .int .i64 (rows.length : Int)), (52, .bool (decide ((i : Int) < (rows.length : Int)))), (55, .int .i64 (j : Int)), (56, .pointer (some ⟨bk2, 4, none⟩)), (57, .slice ao rows.length cap), (58, .int .i64 (i : Int)), (59, .pointer (some ⟨b, o + i * 1, none⟩)), (60, .slice ((nth rows i).ao) (((nth rows i).xs).length) ((nth rows i).cap)), (61, .int .i64 (((nth rows i).xs).length : Int)), (62, .bool (decide ((j : Int) < (((nth rows i).xs).length : Int)))), (65, .pointer (some ⟨bk8, 4, none⟩)), (66, .slice ao2 rs.length c2), (67, .int .i64 (i : Int)), (68, .pointer (some ⟨g2, 0 + i * 1, none⟩)), (69, .slice ((nth rs i).ao) (((nth rs i).xs).length) ((nth rs i).cap)), (70, .int .i64 (j : Int)), (71, .pointer (some ⟨(nth rs i).b, (nth rs i).o + j * 3, none⟩)), (72, .agg #[.int .i64 ((nth ((nth rs i).xs) j).len), .int .i64 ((nth ((nth rs i).xs) j).wid), .int .i64 ((nth ((nth rs i).xs) j).mass)]), (73, .pointer (some ⟨bk2, 4, none⟩)), (74, .slice ao rows.length cap), (75, .int .i64 (i : Int)), (76, .pointer (some ⟨b, o + i * 1, none⟩)), (77, .slice ((nth rows i).ao) (((nth rows i).xs).length) ((nth rows i).cap)), (78, .int .i64 (j : Int)), (79, .pointer (some ⟨(nth rows i).b, (nth rows i).o + j * 3, none⟩)), (80, .agg #[.int .i64 ((nth ((nth rows i).xs) j).len), .int .i64 ((nth ((nth rows i).xs) j).wid), .int .i64 ((nth ((nth rows i).xs) j).mass)]), (81, .bool false)] ⟨rfl, rfl, rfl, rfl, rfl, rfl, rfl, rfl, rfl, rfl, rfl, rfl, rfl, rfl, rfl, rfl, rfl, rfl, rfl, rfl, rfl, rfl, rfl, rfl, rfl, rfl, rfl, rfl, rfl, rfl, rfl, rfl, rfl, rfl, rfl, rfl, trivial⟩ ?_
        refine hK175 _ _ ?_
        refine c_cond_f rfl ?_
        refine c_skip ?_
        refine hK174 _ _ ?_
        refine c_region ?_
        refine t_move rfl rfl rfl ?_
        refine t_ari rfl rfl rfl rfl rfl (by omega) ?_
        refine t_assign rfl rfl rfl ?_
        refine t_nil' ?_
        exact hK165 (j + 1) _ _ (by omega) ⟨rfl, rfl, rfl, rfl, rfl, rfl, rfl, rfl, rfl, rfl, rfl, trivial⟩ ⟨(u167.next u224 (fun _ _ h => h.elim)), (by omega)⟩
      · -- not .bool (decide ((j : Int) < (((nth rows i).xs).length : Int)))
        refine c_exit ?_
        refine hK163 _ _ ?_
        refine c_region ?_
        refine t_move rfl rfl rfl ?_
        refine t_ari rfl rfl rfl rfl rfl (by omega) ?_
        refine t_assign rfl rfl rfl ?_
        refine t_nil' ?_
        exact hK155 (i + 1) _ _ (by omega) ⟨rfl, rfl, rfl, rfl, rfl, trivial⟩ ⟨(u157.next u167 (fun _ _ h => h.elim)), (by omega)⟩
    · -- not .bool (decide ((i : Int) < (rows.length : Int)))
      refine c_exit ?_
      refine hK153 _ _ ?_
      refine c_seq fun K226 hK226 => ?_
      refine c_seq fun K227 hK227 => ?_
      refine c_region ?_
      refine t_loadN (vs := [.int .i64 boat.len, .int .i64 boat.wid, .int .i64 boat.mass, .int .i64 power, .slice ao rows.length cap]) Try.isAgg64 Try.sizeOf64 rfl rfl rfl (B162.at.sub 0 5) rfl ?_
      refine t_call (vs := [.agg #[.int .i64 boat.len, .int .i64 boat.wid, .int .i64 boat.mass, .int .i64 power, .slice ao rows.length cap]]) own38 rfl rfl rfl rfl (rTow_c boat power rows ao b o cap _ (hs.keep E159 (fun _ h => h)) (fun r hr => (hrows r hr).keep E159 (fun _ h => h)) (by omega) (fun r hr => Nat.le_trans (h8all r hr) (by decide))) (fun v228 w229 r231 => ?_)
      obtain ⟨rfl, u230⟩ := r231
      have zu230 := u230.size
      have E232 := E159.next u230 (fun _ _ h => h.elim)
      refine t_not rfl rfl rfl ?_
      refine t_nil' ?_
      refine hK227 _ _ ?_
      refine c_cond rfl (fun g84 => ?_) (fun g84 => ?_)
      · -- .bool (!(okTow boat power (xssOf rows)))
        have hok0 : okTow boat power (rows.map (·.xs)) = false := by simpa using g84
        have hok : okTow boat power (xssOf rows) = false := hok0
        refine c_same 6 (v := .int .i64 2) rfl (congrArg (Value.int .i64) (by simp [MeaE, hok])) ?_
        have B233 := ((B151.keep u157 (fun h => h)).keep u230 (fun h => h))
        have B234 : Blk w229 bk144 66 [.int .i64 0, .int .i64 0, .int .i64 0, .int .i64 0] := by
          have e : ([.int .i64 ((MeaS boat power (xssOf rows)).len), .int .i64 ((MeaS boat power (xssOf rows)).wid), .int .i64 ((MeaS boat power (xssOf rows)).mass), .int .i64 ((MeaS boat power (xssOf rows)).hulls)] : List Value) = [.int .i64 0, .int .i64 0, .int .i64 0, .int .i64 0] := by simp [MeaS, hok]
          rw [← e]; exact B233
        refine c_seq fun K235 hK235 => ?_
        refine c_region ?_
        refine t_move rfl rfl rfl ?_
        refine t_cmp rfl rfl rfl rfl rfl ?_
        refine t_samehd (v := .bool true) rfl ?_
        refine t_move rfl rfl rfl ?_
        refine t_loadN (vs := [.int .i64 0, .int .i64 0, .int .i64 0, .int .i64 0]) Try.isAgg66 Try.sizeOf66 rfl rfl rfl (B234.at.sub 0 4) rfl ?_
        refine t_build (ps := []) (v := .agg #[.int .i64 0, .int .i64 0, .int .i64 0, .int .i64 0]) rfl rfl ⟨rfl, rfl⟩ (fun w => by kernel_rfl) ?_
        refine t_eqS (xs := [.int .i64 0, .int .i64 0, .int .i64 0, .int .i64 0]) (ys := [.int .i64 0, .int .i64 0, .int .i64 0, .int .i64 0]) (by kernel_rfl) (eqIn66 9998 0 0 0 0 0 0 0 0) rfl rfl rfl rfl ?_
        refine t_samehd (v := .bool true) rfl ?_
        refine t_pick_t rfl rfl rfl rfl ?_
        refine t_move rfl rfl rfl ?_
        refine t_call (vs := []) own16 rfl rfl rfl rfl (known_c _) (fun v236 w237 r239 => ?_)
        obtain ⟨rfl, u238⟩ := r239
        have zu238 := u238.size
        have E240 := E232.next u238 (fun _ _ h => h.elim)
        refine t_pick_t rfl rfl rfl rfl ?_
        refine t_assign rfl rfl rfl ?_
        refine t_nil' ?_
        refine hK235 _ _ ?_
        refine c_ret ?_
        refine f_ret1 (v := .bool true) Try.results7 rfl ?_
        exact ⟨rfl, E240⟩
      · -- not .bool (!(okTow boat power (xssOf rows)))
        have hok0 : okTow boat power (rows.map (·.xs)) = true := by simpa using g84
        have hok : okTow boat power (xssOf rows) = true := hok0
        refine c_same 6 (v := .int .i64 0) rfl (congrArg (Value.int .i64) (by simp [MeaE, hok])) ?_
        have B241 := ((B151.keep u157 (fun h => h)).keep u230 (fun h => h))
        have B242 : Blk w229 bk144 66 [.int .i64 ((sizeOf boat (xssOf rows)).len), .int .i64 ((sizeOf boat (xssOf rows)).wid), .int .i64 ((sizeOf boat (xssOf rows)).mass), .int .i64 ((sizeOf boat (xssOf rows)).hulls)] := by
          have e : ([.int .i64 ((MeaS boat power (xssOf rows)).len), .int .i64 ((MeaS boat power (xssOf rows)).wid), .int .i64 ((MeaS boat power (xssOf rows)).mass), .int .i64 ((MeaS boat power (xssOf rows)).hulls)] : List Value) = [.int .i64 ((sizeOf boat (xssOf rows)).len), .int .i64 ((sizeOf boat (xssOf rows)).wid), .int .i64 ((sizeOf boat (xssOf rows)).mass), .int .i64 ((sizeOf boat (xssOf rows)).hulls)] := by simp [MeaS, hok]
          rw [← e]; exact B241
        refine c_skip ?_
        refine hK226 _ _ ?_
        refine c_seq fun K243 hK243 => ?_
        refine WC.weak [(1, .pointer (some ⟨bk2, 0, none⟩)), (3, .pointer (some ⟨bk8, 0, none⟩)), (5, .pointer (some ⟨bk144, 0, none⟩)), (6, .int .i64 0), (7, .int .i64 (i : Int)), (48, .int .i64 (i : Int)), (49, .pointer (some ⟨bk2, 4, none⟩)), (50, .slice ao rows.length cap), (51, .int .i64 (rows.length : Int)), (52, .bool (decide ((i : Int) < (rows.length : Int)))), (82, .agg #[.int .i64 boat.len, .int .i64 boat.wid, .int .i64 boat.mass, .int .i64 power, .slice ao rows.length cap]), (83, .bool (okTow boat power (xssOf rows))), (84, .bool (!(okTow boat power (xssOf rows))))] ⟨rfl, rfl, rfl, rfl, rfl, rfl, rfl, rfl, rfl, rfl, rfl, rfl, rfl, trivial⟩ ?_
        refine c_drawn follows 12 [some (95, some (.int .i64 0)), some (96, some (.bool true)), some (97, some (.bool true)), some (98, some (.agg #[.int .i64 ((sizeOf boat (xssOf rows)).len), .int .i64 ((sizeOf boat (xssOf rows)).wid), .int .i64 ((sizeOf boat (xssOf rows)).mass), .int .i64 ((sizeOf boat (xssOf rows)).hulls)])), some (99, some (.agg #[.int .i64 boat.len, .int .i64 boat.wid, .int .i64 boat.mass, .int .i64 power, .slice ao rows.length cap])), some (100, some (.agg #[.int .i64 ((sizeOf boat (xssOf rows)).len), .int .i64 ((sizeOf boat (xssOf rows)).wid), .int .i64 ((sizeOf boat (xssOf rows)).mass), .int .i64 ((sizeOf boat (xssOf rows)).hulls)])), some (101, some (.bool true)), some (102, some (.bool true)), some (103, some (.bool true)), some (104, some (.bool true)), some (105, some (.bool true)), some (2, some (.bool true))] [[], [0], [1], [2], [2], [4, 2, 2], [3, 5, 2], [2, 6], [7, 5], [8, 8], [8, 9], [10, 9, 0, 1, 2, 3, 4, 5, 6, 7, 8, 9, 10]] (fun _ _ w => Upd (fun _ => False) w229 w) rfl rfl rfl (by kernel_rfl) (by kernel_rfl) (Upd.drew _).to ⟨?_, ?_, ?_, ?_, ?_, ?_, ?_, ?_, ?_, ?_, ?_, ?_, trivial⟩ ?_
        · exact fun D ρ w hcD hnD hdD hW => ⟨[(6, .int .i64 0)], ⟨.inr ⟨rfl, rfl⟩, trivial⟩, fun Lr => t_move rfl rfl rfl (t_nil' fun a ha => ⟨rfl, _, (fun v' h => by cases h; rfl), ha, hW⟩)⟩
        · -- 1
          intro D ρ w255 hcD hnD hdD hW
          have zhW := hW.size
          have E257 := E232.next hW (fun _ _ h => h.elim)
          refine ⟨[(95, .int .i64 0)], ⟨.inl ⟨0, some (.int .i64 0), rfl, rfl, rfl⟩, trivial⟩, fun Lr => ?_⟩
          show WL _ _ _ _ _ _ _ ((95, .int .i64 0) :: Lr) _
          refine t_cmp rfl rfl rfl rfl rfl ?_
          refine t_samehd (v := .bool true) rfl ?_
          refine t_nil' ?_
          exact fun a ha => ⟨rfl, _, (fun v' h => by cases h; rfl), ha, hW⟩
        · exact fun D ρ w hcD hnD hdD hW => ⟨[(96, .bool true)], ⟨.inl ⟨1, some (.bool true), rfl, rfl, rfl⟩, trivial⟩, fun Lr => t_move rfl rfl rfl (t_nil' fun a ha => ⟨rfl, _, (fun v' h => by cases h; rfl), ha, hW⟩)⟩
        · -- 3
          intro D ρ w258 hcD hnD hdD hW
          have zhW := hW.size
          have E260 := E232.next hW (fun _ _ h => h.elim)
          refine ⟨[(5, .pointer (some ⟨bk144, 0, none⟩)), (97, .bool true)], ⟨.inr ⟨rfl, rfl⟩, .inl ⟨2, some (.bool true), rfl, rfl, rfl⟩, trivial⟩, fun Lr => ?_⟩
          show WL _ _ _ _ _ _ _ ((5, .pointer (some ⟨bk144, 0, none⟩)) :: (97, .bool true) :: Lr) _
          have B261 := (B242.keep hW (fun h => h))
          refine t_loadN (vs := [.int .i64 ((sizeOf boat (xssOf rows)).len), .int .i64 ((sizeOf boat (xssOf rows)).wid), .int .i64 ((sizeOf boat (xssOf rows)).mass), .int .i64 ((sizeOf boat (xssOf rows)).hulls)]) Try.isAgg66 Try.sizeOf66 rfl rfl rfl (B261.at.sub 0 4) rfl ?_
          refine t_nil' ?_
          exact fun a ha => ⟨rfl, _, (fun v' h => by cases h; rfl), ha, hW⟩
        · -- 4
          intro D ρ w262 hcD hnD hdD hW
          have zhW := hW.size
          have E264 := E232.next hW (fun _ _ h => h.elim)
          refine ⟨[(1, .pointer (some ⟨bk2, 0, none⟩)), (97, .bool true)], ⟨.inr ⟨rfl, rfl⟩, .inl ⟨2, some (.bool true), rfl, rfl, rfl⟩, trivial⟩, fun Lr => ?_⟩
          show WL _ _ _ _ _ _ _ ((1, .pointer (some ⟨bk2, 0, none⟩)) :: (97, .bool true) :: Lr) _
          have B265 := ((B162.keep u230 (fun h => h)).keep hW (fun h => h))
          refine t_loadN (vs := [.int .i64 boat.len, .int .i64 boat.wid, .int .i64 boat.mass, .int .i64 power, .slice ao rows.length cap]) Try.isAgg64 Try.sizeOf64 rfl rfl rfl (B265.at.sub 0 5) rfl ?_
          refine t_nil' ?_
          exact fun a ha => ⟨rfl, _, (fun v' h => by cases h; rfl), ha, hW⟩
        · -- 5
          intro D ρ w266 hcD hnD hdD hW
          have zhW := hW.size
          have E268 := E232.next hW (fun _ _ h => h.elim)
          refine ⟨[(97, .bool true), (99, .agg #[.int .i64 boat.len, .int .i64 boat.wid, .int .i64 boat.mass, .int .i64 power, .slice ao rows.length cap])], ⟨.inl ⟨2, some (.bool true), rfl, rfl, rfl⟩, .inl ⟨4, some (.agg #[.int .i64 boat.len, .int .i64 boat.wid, .int .i64 boat.mass, .int .i64 power, .slice ao rows.length cap]), rfl, rfl, rfl⟩, trivial⟩, fun Lr => ?_⟩
          show WL _ _ _ _ _ _ _ ((97, .bool true) :: (99, .agg #[.int .i64 boat.len, .int .i64 boat.wid, .int .i64 boat.mass, .int .i64 power, .slice ao rows.length cap]) :: Lr) _
          refine t_call (vs := [.agg #[.int .i64 boat.len, .int .i64 boat.wid, .int .i64 boat.mass, .int .i64 power, .slice ao rows.length cap]]) own39 rfl rfl rfl rfl (rMeasure_c boat power rows ao b o cap _ (hs.keep E268 (fun _ h => h)) (fun r hr => (hrows r hr).keep E268 (fun _ h => h)) hok) (fun v269 w270 r272 => ?_)
          obtain ⟨rfl, u271⟩ := r272
          have zu271 := u271.size
          have E273 := E268.next u271 (fun _ _ h => h.elim)
          refine t_nil' ?_
          exact fun a ha => ⟨rfl, _, (fun v' h => by cases h; rfl), ha, (hW.next u271 (fun _ _ h => h.elim))⟩
        · -- 6
          intro D ρ w274 hcD hnD hdD hW
          have zhW := hW.size
          have E276 := E232.next hW (fun _ _ h => h.elim)
          refine ⟨[(97, .bool true), (98, .agg #[.int .i64 ((sizeOf boat (xssOf rows)).len), .int .i64 ((sizeOf boat (xssOf rows)).wid), .int .i64 ((sizeOf boat (xssOf rows)).mass), .int .i64 ((sizeOf boat (xssOf rows)).hulls)]), (100, .agg #[.int .i64 ((sizeOf boat (xssOf rows)).len), .int .i64 ((sizeOf boat (xssOf rows)).wid), .int .i64 ((sizeOf boat (xssOf rows)).mass), .int .i64 ((sizeOf boat (xssOf rows)).hulls)])], ⟨.inl ⟨2, some (.bool true), rfl, rfl, rfl⟩, .inl ⟨3, some (.agg #[.int .i64 ((sizeOf boat (xssOf rows)).len), .int .i64 ((sizeOf boat (xssOf rows)).wid), .int .i64 ((sizeOf boat (xssOf rows)).mass), .int .i64 ((sizeOf boat (xssOf rows)).hulls)]), rfl, rfl, rfl⟩, .inl ⟨5, some (.agg #[.int .i64 ((sizeOf boat (xssOf rows)).len), .int .i64 ((sizeOf boat (xssOf rows)).wid), .int .i64 ((sizeOf boat (xssOf rows)).mass), .int .i64 ((sizeOf boat (xssOf rows)).hulls)]), rfl, rfl, rfl⟩, trivial⟩, fun Lr => ?_⟩
          show WL _ _ _ _ _ _ _ ((97, .bool true) :: (98, .agg #[.int .i64 ((sizeOf boat (xssOf rows)).len), .int .i64 ((sizeOf boat (xssOf rows)).wid), .int .i64 ((sizeOf boat (xssOf rows)).mass), .int .i64 ((sizeOf boat (xssOf rows)).hulls)]) :: (100, .agg #[.int .i64 ((sizeOf boat (xssOf rows)).len), .int .i64 ((sizeOf boat (xssOf rows)).wid), .int .i64 ((sizeOf boat (xssOf rows)).mass), .int .i64 ((sizeOf boat (xssOf rows)).hulls)]) :: Lr) _
          refine t_eqS (xs := [.int .i64 ((sizeOf boat (xssOf rows)).len), .int .i64 ((sizeOf boat (xssOf rows)).wid), .int .i64 ((sizeOf boat (xssOf rows)).mass), .int .i64 ((sizeOf boat (xssOf rows)).hulls)]) (ys := [.int .i64 ((sizeOf boat (xssOf rows)).len), .int .i64 ((sizeOf boat (xssOf rows)).wid), .int .i64 ((sizeOf boat (xssOf rows)).mass), .int .i64 ((sizeOf boat (xssOf rows)).hulls)]) (by kernel_rfl) (eqIn66 9998 ((sizeOf boat (xssOf rows)).len) ((sizeOf boat (xssOf rows)).wid) ((sizeOf boat (xssOf rows)).mass) ((sizeOf boat (xssOf rows)).hulls) ((sizeOf boat (xssOf rows)).len) ((sizeOf boat (xssOf rows)).wid) ((sizeOf boat (xssOf rows)).mass) ((sizeOf boat (xssOf rows)).hulls)) rfl rfl rfl rfl ?_
          refine t_samehd (v := .bool true) (by simp) ?_
          refine t_nil' ?_
          exact fun a ha => ⟨rfl, _, (fun v' h => by cases h; rfl), ha, hW⟩
        · exact fun D ρ w hcD hnD hdD hW => ⟨[(97, .bool true), (101, .bool true)], ⟨.inl ⟨2, some (.bool true), rfl, rfl, rfl⟩, .inl ⟨6, some (.bool true), rfl, rfl, rfl⟩, trivial⟩, fun Lr => t_pick_t rfl rfl rfl rfl (t_nil' fun a ha => ⟨rfl, _, (fun v' h => by cases h; rfl), ha, hW⟩)⟩
        · exact fun D ρ w hcD hnD hdD hW => ⟨[(102, .bool true)], ⟨.inl ⟨7, some (.bool true), rfl, rfl, rfl⟩, trivial⟩, fun Lr => t_move rfl rfl rfl (t_nil' fun a ha => ⟨rfl, _, (fun v' h => by cases h; rfl), ha, hW⟩)⟩
        · -- 9
          intro D ρ w277 hcD hnD hdD hW
          have zhW := hW.size
          have E279 := E232.next hW (fun _ _ h => h.elim)
          refine ⟨[(103, .bool true)], ⟨.inl ⟨8, some (.bool true), rfl, rfl, rfl⟩, trivial⟩, fun Lr => ?_⟩
          show WL _ _ _ _ _ _ _ ((103, .bool true) :: Lr) _
          refine t_call (vs := []) own16 rfl rfl rfl rfl (known_c _) (fun v280 w281 r283 => ?_)
          obtain ⟨rfl, u282⟩ := r283
          have zu282 := u282.size
          have E284 := E279.next u282 (fun _ _ h => h.elim)
          refine t_nil' ?_
          exact fun a ha => ⟨rfl, _, (fun v' h => by cases h; rfl), ha, (hW.next u282 (fun _ _ h => h.elim))⟩
        · exact fun D ρ w hcD hnD hdD hW => ⟨[(103, .bool true), (104, .bool true)], ⟨.inl ⟨8, some (.bool true), rfl, rfl, rfl⟩, .inl ⟨9, some (.bool true), rfl, rfl, rfl⟩, trivial⟩, fun Lr => t_pick_t rfl rfl rfl rfl (t_nil' fun a ha => ⟨rfl, _, (fun v' h => by cases h; rfl), ha, hW⟩)⟩
        · exact fun D ρ w hcD hnD hdD hW => ⟨[(105, .bool true)], ⟨.inl ⟨10, some (.bool true), rfl, rfl, rfl⟩, trivial⟩, fun Lr => t_assign rfl rfl rfl (t_nil' fun a ha => ⟨rfl, _, (fun v' h => by cases h; rfl), ha, hW⟩)⟩
        intro ρ w285 hW
        have u286 : Upd (fun _ => False) w229 w285 := hW
        have zu286 := u286.size
        have E287 := E232.next u286 (fun _ _ h => h.elim)
        refine QK.weak [(2, .bool true)] ⟨rfl, trivial⟩ ?_
        refine hK243 _ _ ?_
        refine c_ret ?_
        refine f_ret1 (v := .bool true) Try.results7 rfl ?_
        exact ⟨rfl, E287⟩

end Go.Proofs.Ytmicjleiheoieaa
