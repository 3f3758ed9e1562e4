/-
  Contracts of the holds of traffic. Conditions: none.
-/
import Derived.Test.YtmicjleiheoieaaA8
namespace Go.Proofs.Ytmicjleiheoieaa
open Go Go.RowKit
theorem Traf.rowlen {lim t : Nat} {vs : List HVoy} {ns : List Nar} {rows : List HSt} {av an ar : Option Addr} {bv ov bn on br cv cn cr : Nat} {w : World} (h : Traf lim t vs ns rows av an ar bv ov bn on br cv cn cr w) : rows.length = vs.length := by
  have := congrArg List.length h.eq
  simpa using this
theorem Traf.row {lim t : Nat} {vs : List HVoy} {ns : List Nar} {rows : List HSt} {av an ar : Option Addr} {bv ov bn on br cv cn cr : Nat} {w : World} (h : Traf lim t vs ns rows av an ar bv ov bn on br cv cn cr w) {i : Nat} (hi : i < vs.length) : (nth rows i).ss = ns.map (thrS (nth vs i).v) := by
  have hl := h.rowlen
  have := congrArg (fun l => l[i]?) h.eq
  simp only [List.getElem?_map] at this
  rw [List.getElem?_eq_getElem (by omega), List.getElem?_eq_getElem hi] at this
  rw [nth_eq (by omega), nth_eq hi]
  simpa using this
/-- The two voyages must not meet in narrow k, and both come there. -/
def barB (vs : List HVoy) (ns : List Nar) (rows : List HSt) (i j k : Nat) : Bool :=
  ((nth ns k).single || decide ((nth ns k).wid < (nth vs i).v.wid + (nth vs j).v.wid)) && (nth (nth rows i).ss k).there && (nth (nth rows j).ss k).there
abbrev Ix (n : Nat) := { k : Nat // k < n }
def encIx {n : Nat} (k : Ix n) : Value := .int .i64 (k.1 : Int)
theorem filter_succ {p : Nat → Bool} (k : Nat) : (List.range (k + 1)).filter p = (List.range k).filter p ++ (if p k then [k] else []) := by
  rw [List.range_succ, List.filter_append]
  cases h : p k <;> simp [h]
theorem vals_snoc {n : Nat} {pre : List (Ix n)} {x : Ix n} {l : List Nat} (h : pre.map (·.1) = l) : (pre ++ [x]).map (·.1) = l ++ [x.1] := by rw [List.map_append, h]; rfl

theorem bars_c (t i j : Nat) (w0 : World) :
    CallsV Try.prog 88 [.pointer (some ⟨t, 0, none⟩), .int .i64 (i : Int), .int .i64 (j : Int)] w0 (fun v w' => (∃ b3 b4 b5, v = .func (.func 108) #[] #[.pointer (some ⟨b3, 0, none⟩), .pointer (some ⟨b4, 0, none⟩), .pointer (some ⟨b5, 0, none⟩)] ∧ w0.heap.size ≤ b3 ∧ w0.heap.size ≤ b4 ∧ w0.heap.size ≤ b5 ∧ Blk w' b3 124 [.pointer (some ⟨t, 0, none⟩)] ∧ Blk w' b4 3 [.int .i64 (i : Int)] ∧ Blk w' b5 3 [.int .i64 (j : Int)]) ∧ Ext w0 w') := by
  have E0 := Upd.refl (fun _ => False) w0
  refine f_enter (N := 8) Try.func88 rfl rfl rfl ?_
  change WC _ _ _ _ _ _ [(0, .pointer (some ⟨t, 0, none⟩)), (1, .int .i64 (i : Int)), (2, .int .i64 (j : Int))] _
  refine c_seq fun K1 hK1 => ?_
  refine c_region ?_
  refine t_box (cs := [.pointer (some ⟨t, 0, none⟩)]) rfl rfl rfl rfl (fun bk2 w3 ebk2 sbk2 B4 u5 => ?_)
  have zu5 := u5.size
  have E6 := E0.next u5 (fun _ _ h => h.elim)
  refine t_box (cs := [.int .i64 (i : Int)]) rfl rfl rfl rfl (fun bk7 w8 ebk7 sbk7 B9 u10 => ?_)
  have zu10 := u10.size
  have E11 := E6.next u10 (fun _ _ h => h.elim)
  refine t_box (cs := [.int .i64 (j : Int)]) rfl rfl rfl rfl (fun bk12 w13 ebk12 sbk12 B14 u15 => ?_)
  have zu15 := u15.size
  have E16 := E11.next u15 (fun _ _ h => h.elim)
  refine t_assign rfl rfl rfl ?_
  refine t_nil' ?_
  refine hK1 _ _ ?_
  refine c_seq fun K17 hK17 => ?_
  refine c_region ?_
  refine t_mkfunc (vs := []) (us := [.pointer (some ⟨bk2, 0, none⟩), .pointer (some ⟨bk7, 0, none⟩), .pointer (some ⟨bk12, 0, none⟩)]) rfl rfl rfl rfl ?_
  refine t_assign rfl rfl rfl ?_
  refine t_nil' ?_
  refine hK17 _ _ ?_
  refine c_ret ?_
  refine f_ret1 (v := .func (.func 108) #[] #[.pointer (some ⟨bk2, 0, none⟩), .pointer (some ⟨bk7, 0, none⟩), .pointer (some ⟨bk12, 0, none⟩)]) Try.results88 rfl ?_
  have B18 := ((B4.keep u10 (fun h => h)).keep u15 (fun h => h))
  have B19 := (B9.keep u15 (fun h => h))
  exact ⟨⟨_, _, _, rfl, by omega, by omega, by omega, B18, B19, B14⟩, E16⟩

set_option maxHeartbeats 4000000 in
theorem bars1_c (lim t : Nat) (vs : List HVoy) (ns : List Nar) (rows : List HSt) (av an ar : Option Addr) (bv ov bn on br cv cn cr : Nat) (i j b3 b4 b5 l m : Nat) (T : Nat → Prop) (J Jx : List (Ix ns.length) → World → Prop) (w0 : World) (htr : Traf lim t vs ns rows av an ar bv ov bn on br cv cn cr w0) (hi : i < vs.length) (hj : j < vs.length) (h3 : Blk w0 b3 124 [.pointer (some ⟨t, 0, none⟩)]) (h4 : Blk w0 b4 3 [.int .i64 (i : Int)]) (h5 : Blk w0 b5 3 [.int .i64 (j : Int)]) (hT : ∀ i, i < lim → ¬ T i) (hT3 : ¬ T b3) (hT4 : ¬ T b4) (hT5 : ¬ T b5) (hJ : AbidesFrom w0.heap.size J) (hY : ∀ pre x W1, J pre W1 → pre.length < 21 → YieldAt Fence.wide m Try.prog l #[encIx x] W1 fun e W' => (e = .returned (.bool true) ∧ J (pre ++ [x]) W' ∧ Upd T W1 W') ∨ (e = .returned (.bool false) ∧ Jx (pre ++ [x]) W')) (hJ0 : J [] w0) :
    CallsV Try.prog 108 [.func (.yield l) #[] #[], .pointer (some ⟨b3, 0, none⟩), .pointer (some ⟨b4, 0, none⟩), .pointer (some ⟨b5, 0, none⟩)] w0 (fun v w' => ∃ u, v = u ∧ ((∃ xs : List (Ix ns.length), xs.map (·.1) = (List.range ns.length).filter (barB vs ns rows i j) ∧ J xs w') ∨ (∃ pre, Jx pre w'))) := by
  have l3 := h3.lt
  have l4 := h4.lt
  have l5 := h5.lt
  have lt0 := htr.blk.lt
  have hll := htr.ll
  have htl := htr.tl
  have hTt := hT t htl
  have hrw := htr.rowlen
  have hri := congrArg List.length (htr.row hi)
  have hrj := congrArg List.length (htr.row hj)
  rw [List.length_map] at hri hrj
  have hfew := htr.few
  have htb := htr.blk
  have hwi := (okVoy_rng (htr.ok _ (nth_mem hi))).wid
  have hwj := (okVoy_rng (htr.ok _ (nth_mem hj))).wid
  have E0 := Upd.refl (fun i => T i) w0
  refine f_enter (N := 74) Try.func108 rfl rfl rfl ?_
  change WC _ _ _ _ _ _ [(0, .func (.yield l) #[] #[]), (1, .pointer (some ⟨b3, 0, none⟩)), (2, .pointer (some ⟨b4, 0, none⟩)), (3, .pointer (some ⟨b5, 0, none⟩))] _
  refine c_seq fun K1 hK1 => ?_
  refine c_region ?_
  refine t_load Try.isAgg124 rfl rfl rfl (h3.get rfl) ?_
  refine t_nilchk rfl rfl rfl ?_
  refine t_field Try.underlying160 rfl Try.sizeOf35 (1) rfl rfl rfl rfl ?_
  refine t_load Try.isAgg35 rfl rfl rfl (htb.get rfl) ?_
  refine t_len Try.underlying35 rfl rfl rfl rfl ?_
  refine t_move rfl rfl rfl ?_
  refine t_nil' ?_
  refine hK1 _ _ ?_
  refine c_block ?_
  refine c_loop (γ := Nat × List (Ix ns.length)) (fun gg => [(0, .func (.yield l) #[] #[]), (1, .pointer (some ⟨b3, 0, none⟩)), (2, .pointer (some ⟨b4, 0, none⟩)), (3, .pointer (some ⟨b5, 0, none⟩)), (10, .slice an ns.length cn), (11, .int .i64 (ns.length : Int)), (12, .int .i64 (gg.1 : Int))]) (fun gg w => Upd (fun i => T i) w0 w ∧ (gg.1 ≤ ns.length) ∧ (gg.2.map (·.1) = (List.range gg.1).filter (barB vs ns rows i j)) ∧ (gg.2.length ≤ gg.1) ∧ (J gg.2 w)) (fun gg => ns.length - gg.1) (0, []) ⟨rfl, rfl, rfl, rfl, rfl, rfl, rfl, trivial⟩ ⟨Upd.refl _ _, (Nat.zero_le _), rfl, (Nat.le_refl _), hJ0⟩ ?_
  intro gg w3 hW K2 hK2
  obtain ⟨k, pre⟩ := gg
  change WC _ _ _ _ _ _ [(0, .func (.yield l) #[] #[]), (1, .pointer (some ⟨b3, 0, none⟩)), (2, .pointer (some ⟨b4, 0, none⟩)), (3, .pointer (some ⟨b5, 0, none⟩)), (10, .slice an ns.length cn), (11, .int .i64 (ns.length : Int)), (12, .int .i64 (k : Int))] _
  change Upd (fun i => T i) w0 w3 ∧ (k ≤ ns.length) ∧ (pre.map (·.1) = (List.range k).filter (barB vs ns rows i j)) ∧ (pre.length ≤ k) ∧ (J pre w3) at hW
  obtain ⟨u4, I5, I6, I7, I8⟩ := hW
  have zu4 := u4.size
  have E9 := E0.next u4 (fun i hi (h : T i) => show T i by first | omega | assumption)
  have hk := I5; clear I5
  have hpre := I6; clear I6
  have hpl := I7; clear I7
  have hJk := I8; clear I8
  refine c_seq fun K10 hK10 => ?_
  refine c_region ?_
  refine t_cmp rfl rfl rfl rfl rfl ?_
  refine t_nil' ?_
  refine hK10 _ _ ?_
  refine c_seq fun K11 hK11 => ?_
  refine c_condp rfl (fun g13 => ?_) (fun g13 => ?_)
  · -- .bool (decide ((k : Int) < (ns.length : Int)))
    refine c_skip ?_
    refine hK11 _ _ ?_
    refine c_seq fun K12 hK12 => ?_
    refine c_block ?_
    refine c_seq fun K13 hK13 => ?_
    refine c_region ?_
    refine t_move rfl rfl rfl ?_
    have D14 := (htr.keep u4 hT)
    have i15 : k < ns.length := (by omega)
    refine t_index (j := k) Try.underlying35 Try.sizeOf72 rfl rfl rfl rfl (D14.nsl.addr (by omega)) rfl i15 ?_
    refine t_loadN (vs := [.int .i64 ((nth ns k).frm), .int .i64 ((nth ns k).to), .int .i64 ((nth ns k).wid), .bool ((nth ns k).single)]) Try.isAgg72 Try.sizeOf72 rfl rfl rfl ((D14.nsl.at_ k (by omega)).sub 0 4) rfl ?_
    refine t_alloc (cs := [.int .i64 0, .int .i64 0, .int .i64 0, .bool false]) Try.zeroValue72 rfl rfl rfl (fun bk16 w17 ebk16 sbk16 B18 u19 => ?_)
    have zu19 := u19.size
    have E20 := E9.next u19 (fun _ _ h => h.elim)
    refine t_assign rfl rfl rfl ?_
    refine t_store (vs := [.int .i64 ((nth ns k).frm), .int .i64 ((nth ns k).to), .int .i64 ((nth ns k).wid), .bool ((nth ns k).single)]) Try.sizeOf72 rfl rfl rfl B18 rfl rfl (Nat.le_of_ble_eq_true rfl) (by simp [Value.oneCell']) (fun w21 sw21 B23 u22 => ?_)
    have zu22 := u22.size
    have E24 := E20.next u22 (fun i hi (h : i = bk16) => show T i by first | omega | assumption)
    have B23 : Blk w21 bk16 72 [.int .i64 ((nth ns k).frm), .int .i64 ((nth ns k).to), .int .i64 ((nth ns k).wid), .bool ((nth ns k).single)] := B23
    refine t_nil' ?_
    refine hK13 _ _ ?_
    refine c_seq fun K25 hK25 => ?_
    have hkn : k < ns.length := by omega
    have hpl21 : pre.length < 21 := by omega
    rcases Bool.eq_false_or_eq_true ((nth ns k).single) with g19 | g19
    ·
      rcases Bool.eq_false_or_eq_true ((nth ((nth rows i).ss) k).there) with g54 | g54
      ·
        rcases Bool.eq_false_or_eq_true ((nth ((nth rows j).ss) k).there) with g67 | g67
        ·
          refine WC.weak [(0, .func (.yield l) #[] #[]), (1, .pointer (some ⟨b3, 0, none⟩)), (2, .pointer (some ⟨b4, 0, none⟩)), (3, .pointer (some ⟨b5, 0, none⟩)), (5, .int .i64 (k : Int)), (6, .pointer (some ⟨bk16, 0, none⟩)), (10, .slice an ns.length cn), (11, .int .i64 (ns.length : Int)), (12, .int .i64 (k : Int)), (13, .bool (decide ((k : Int) < (ns.length : Int)))), (14, .int .i64 (k : Int)), (15, .pointer (some ⟨bn, on + k * 4, none⟩)), (16, .agg #[.int .i64 ((nth ns k).frm), .int .i64 ((nth ns k).to), .int .i64 ((nth ns k).wid), .bool ((nth ns k).single)])] ⟨rfl, rfl, rfl, rfl, rfl, rfl, rfl, rfl, rfl, rfl, rfl, rfl, rfl, trivial⟩ ?_
          refine c_drawn followsS' 56 [some (17, some (.pointer (some ⟨bk16, 3, none⟩))), some (18, some (.bool ((nth ns k).single))), some (19, some (.bool true)), some (20, some (undef)), some (21, some (undef)), some (22, some (undef)), some (23, some (undef)), some (24, some (undef)), some (25, some (undef)), some (26, some (undef)), some (27, some (undef)), some (28, some (undef)), some (29, some (undef)), some (30, some (undef)), some (31, some (undef)), some (32, some (undef)), some (33, some (undef)), some (34, some (undef)), some (35, some (undef)), some (36, some (undef)), some (37, some (undef)), some (38, some (undef)), some (39, some (undef)), some (40, some (.bool true)), some (41, some (.bool true)), some (42, some (.pointer (some ⟨t, 0, none⟩))), some (43, some (.pointer (some ⟨t, 0, none⟩))), some (44, some (.pointer (some ⟨t, 2, none⟩))), some (45, some (.slice ar rows.length cr)), some (46, some (.int .i64 (i : Int))), some (47, some (.pointer (some ⟨br, 0 + i * 1, none⟩))), some (48, some (.slice ((nth rows i).ao) (((nth rows i).ss).length) ((nth rows i).cap))), some (49, some (.int .i64 (k : Int))), some (50, some (.pointer (some ⟨(nth rows i).g, 0 + k * 5, none⟩))), some (51, some (.pointer (some ⟨(nth rows i).g, 0 + k * 5 + 4, none⟩))), some (52, some (.bool ((nth ((nth rows i).ss) k).there))), some (53, some (.bool ((nth ((nth rows i).ss) k).there))), some (54, some (.bool true)), some (55, some (.pointer (some ⟨t, 0, none⟩))), some (56, some (.pointer (some ⟨t, 0, none⟩))), some (57, some (.pointer (some ⟨t, 2, none⟩))), some (58, some (.slice ar rows.length cr)), some (59, some (.int .i64 (j : Int))), some (60, some (.pointer (some ⟨br, 0 + j * 1, none⟩))), some (61, some (.slice ((nth rows j).ao) (((nth rows j).ss).length) ((nth rows j).cap))), some (62, some (.int .i64 (k : Int))), some (63, some (.pointer (some ⟨(nth rows j).g, 0 + k * 5, none⟩))), some (64, some (.pointer (some ⟨(nth rows j).g, 0 + k * 5 + 4, none⟩))), some (65, some (.bool ((nth ((nth rows j).ss) k).there))), some (66, some (.bool ((nth ((nth rows j).ss) k).there))), some (67, some (.bool true)), some (68, some (.func (.yield l) #[] #[])), some (69, some (.int .i64 (k : Int))), some (70, none), some (71, none), some (72, none)] [[], [0], [1], [2], [3, 2], [4, 2], [5, 2], [2], [6, 7, 2], [8, 2], [9, 2], [2], [11, 2], [12, 2], [13, 2], [2], [14, 15, 2], [16, 2], [17, 2], [10, 18, 2], [2], [20, 2], [19, 21, 2], [2, 22], [23, 2], [24], [25, 24], [26, 24], [27, 24], [24], [28, 29, 24], [30, 24], [24], [31, 32, 24], [33, 24], [34, 24], [24, 35], [36, 24], [37], [38, 37], [39, 37], [40, 37], [37], [41, 42, 37], [43, 37], [37], [44, 45, 37], [46, 37], [47, 37], [37, 48], [49, 37], [50], [50], [51, 52, 50, 50], [53, 50], [50, 54]] (fun D ρ w => (D 53 = false → Upd (fun _ => False) w21 w) ∧ (D 53 = true → ∃ yb, ρ 53 = .bool yb ∧ ((yb = true → J (pre ++ [⟨k, hkn⟩]) w ∧ Upd T w21 w) ∧ (yb = false → Jx (pre ++ [⟨k, hkn⟩]) w))) ∧ (D 54 = true → ∃ yb, ρ 53 = .bool yb ∧ ρ 54 = .bool (!yb)) ∧ (D 55 = true → ∃ yb, ρ 53 = .bool yb ∧ ρ 55 = .bool (!yb))) rfl rfl rfl (by kernel_rfl) (by kernel_rfl) ⟨(fun _ => (Upd.drew _).to), (fun h => by cases h), (fun h => by cases h), (fun h => by cases h)⟩ ⟨?_, ?_, ?_, ?_, ?_, ?_, ?_, ?_, ?_, ?_, ?_, ?_, ?_, ?_, ?_, ?_, ?_, ?_, ?_, ?_, ?_, ?_, ?_, ?_, ?_, ?_, ?_, ?_, ?_, ?_, ?_, ?_, ?_, ?_, ?_, ?_, ?_, ?_, ?_, ?_, ?_, ?_, ?_, ?_, ?_, ?_, ?_, ?_, ?_, ?_, ?_, ?_, ?_, ?_, ?_, ?_, trivial⟩ ?_
          · exact fun D ρ w hcD hnD hdD hW => ⟨[(6, .pointer (some ⟨bk16, 0, none⟩))], ⟨.inr ⟨rfl, rfl⟩, trivial⟩, fun Lr => t_field Try.underlying72 rfl Try.sizeOf4 (3) rfl rfl rfl rfl (t_nil' fun a ha => ⟨rfl, _, (fun v' h => by cases h; rfl), ha, hW⟩)⟩
          · -- 1
            intro D ρ w53 hcD hnD hdD hW
            obtain ⟨u54, F55, F56, F57⟩ := hW
            have u58 := u54 (hcD.late 53 (hcD.late 50 (hcD.late 37 (hcD.late 24 (hcD.late 2 hnD rfl) rfl) rfl) rfl) rfl)
            have zu58 := u58.size
            have E59 := E24.next u58 (fun _ _ h => h.elim)
            refine ⟨[(17, .pointer (some ⟨bk16, 3, none⟩))], ⟨.inl ⟨0, some (.pointer (some ⟨bk16, 3, none⟩)), rfl, rfl, rfl⟩, trivial⟩, fun Lr => ?_⟩
            show WL _ _ _ _ _ _ _ ((17, .pointer (some ⟨bk16, 3, none⟩)) :: Lr) _
            have B60 := (B23.keep u58 (fun h => h))
            refine t_load Try.isAgg4 rfl rfl rfl (B60.get rfl) ?_
            refine t_nil' ?_
            exact fun a ha => ⟨rfl, _, (fun v' h => by cases h; rfl), ha, ⟨u54, F55, F56, F57⟩⟩
          · exact fun D ρ w hcD hnD hdD hW => ⟨[(18, .bool ((nth ns k).single))], ⟨.inl ⟨1, some (.bool ((nth ns k).single)), rfl, rfl, rfl⟩, trivial⟩, fun Lr => t_move rfl rfl rfl (t_samehd (v := .bool true) (by simp [g19]) (t_nil' fun a ha => ⟨rfl, _, (fun v' h => by cases h; rfl), ha, hW⟩))⟩
          · exact fun D ρ w hcD hnD hdD hW => ⟨[(1, .pointer (some ⟨b3, 0, none⟩)), (19, .bool true)], ⟨.inr ⟨rfl, rfl⟩, .inl ⟨2, some (.bool true), rfl, rfl, rfl⟩, trivial⟩, fun Lr => t_skip rfl rfl rfl (t_nil' fun a ha => ⟨rfl, _, (fun v' h => by cases h; rfl), ha, hW⟩)⟩
          · exact fun D ρ w hcD hnD hdD hW => ⟨[(19, .bool true), (20, undef)], ⟨.inl ⟨2, some (.bool true), rfl, rfl, rfl⟩, .inl ⟨3, some (undef), rfl, rfl, rfl⟩, trivial⟩, fun Lr => t_skip rfl rfl rfl (t_nil' fun a ha => ⟨rfl, _, (fun v' h => by cases h; rfl), ha, hW⟩)⟩
          · exact fun D ρ w hcD hnD hdD hW => ⟨[(19, .bool true), (21, undef)], ⟨.inl ⟨2, some (.bool true), rfl, rfl, rfl⟩, .inl ⟨4, some (undef), rfl, rfl, rfl⟩, trivial⟩, fun Lr => t_skip rfl rfl rfl (t_nil' fun a ha => ⟨rfl, _, (fun v' h => by cases h; rfl), ha, hW⟩)⟩
          · exact fun D ρ w hcD hnD hdD hW => ⟨[(19, .bool true), (22, undef)], ⟨.inl ⟨2, some (.bool true), rfl, rfl, rfl⟩, .inl ⟨5, some (undef), rfl, rfl, rfl⟩, trivial⟩, fun Lr => t_skip rfl rfl rfl (t_nil' fun a ha => ⟨rfl, _, (fun v' h => by cases h; rfl), ha, hW⟩)⟩
          · exact fun D ρ w hcD hnD hdD hW => ⟨[(2, .pointer (some ⟨b4, 0, none⟩)), (19, .bool true)], ⟨.inr ⟨rfl, rfl⟩, .inl ⟨2, some (.bool true), rfl, rfl, rfl⟩, trivial⟩, fun Lr => t_skip rfl rfl rfl (t_nil' fun a ha => ⟨rfl, _, (fun v' h => by cases h; rfl), ha, hW⟩)⟩
          · exact fun D ρ w hcD hnD hdD hW => ⟨[(19, .bool true), (23, undef), (24, undef)], ⟨.inl ⟨2, some (.bool true), rfl, rfl, rfl⟩, .inl ⟨6, some (undef), rfl, rfl, rfl⟩, .inl ⟨7, some (undef), rfl, rfl, rfl⟩, trivial⟩, fun Lr => t_skip rfl rfl rfl (t_nil' fun a ha => ⟨rfl, _, (fun v' h => by cases h; rfl), ha, hW⟩)⟩
          · exact fun D ρ w hcD hnD hdD hW => ⟨[(19, .bool true), (25, undef)], ⟨.inl ⟨2, some (.bool true), rfl, rfl, rfl⟩, .inl ⟨8, some (undef), rfl, rfl, rfl⟩, trivial⟩, fun Lr => t_skip rfl rfl rfl (t_nil' fun a ha => ⟨rfl, _, (fun v' h => by cases h; rfl), ha, hW⟩)⟩
          · exact fun D ρ w hcD hnD hdD hW => ⟨[(19, .bool true), (26, undef)], ⟨.inl ⟨2, some (.bool true), rfl, rfl, rfl⟩, .inl ⟨9, some (undef), rfl, rfl, rfl⟩, trivial⟩, fun Lr => t_skip rfl rfl rfl (t_nil' fun a ha => ⟨rfl, _, (fun v' h => by cases h; rfl), ha, hW⟩)⟩
          · exact fun D ρ w hcD hnD hdD hW => ⟨[(1, .pointer (some ⟨b3, 0, none⟩)), (19, .bool true)], ⟨.inr ⟨rfl, rfl⟩, .inl ⟨2, some (.bool true), rfl, rfl, rfl⟩, trivial⟩, fun Lr => t_skip rfl rfl rfl (t_nil' fun a ha => ⟨rfl, _, (fun v' h => by cases h; rfl), ha, hW⟩)⟩
          · exact fun D ρ w hcD hnD hdD hW => ⟨[(19, .bool true), (28, undef)], ⟨.inl ⟨2, some (.bool true), rfl, rfl, rfl⟩, .inl ⟨11, some (undef), rfl, rfl, rfl⟩, trivial⟩, fun Lr => t_skip rfl rfl rfl (t_nil' fun a ha => ⟨rfl, _, (fun v' h => by cases h; rfl), ha, hW⟩)⟩
          · exact fun D ρ w hcD hnD hdD hW => ⟨[(19, .bool true), (29, undef)], ⟨.inl ⟨2, some (.bool true), rfl, rfl, rfl⟩, .inl ⟨12, some (undef), rfl, rfl, rfl⟩, trivial⟩, fun Lr => t_skip rfl rfl rfl (t_nil' fun a ha => ⟨rfl, _, (fun v' h => by cases h; rfl), ha, hW⟩)⟩
          · exact fun D ρ w hcD hnD hdD hW => ⟨[(19, .bool true), (30, undef)], ⟨.inl ⟨2, some (.bool true), rfl, rfl, rfl⟩, .inl ⟨13, some (undef), rfl, rfl, rfl⟩, trivial⟩, fun Lr => t_skip rfl rfl rfl (t_nil' fun a ha => ⟨rfl, _, (fun v' h => by cases h; rfl), ha, hW⟩)⟩
          · exact fun D ρ w hcD hnD hdD hW => ⟨[(3, .pointer (some ⟨b5, 0, none⟩)), (19, .bool true)], ⟨.inr ⟨rfl, rfl⟩, .inl ⟨2, some (.bool true), rfl, rfl, rfl⟩, trivial⟩, fun Lr => t_skip rfl rfl rfl (t_nil' fun a ha => ⟨rfl, _, (fun v' h => by cases h; rfl), ha, hW⟩)⟩
          · exact fun D ρ w hcD hnD hdD hW => ⟨[(19, .bool true), (31, undef), (32, undef)], ⟨.inl ⟨2, some (.bool true), rfl, rfl, rfl⟩, .inl ⟨14, some (undef), rfl, rfl, rfl⟩, .inl ⟨15, some (undef), rfl, rfl, rfl⟩, trivial⟩, fun Lr => t_skip rfl rfl rfl (t_nil' fun a ha => ⟨rfl, _, (fun v' h => by cases h; rfl), ha, hW⟩)⟩
          · exact fun D ρ w hcD hnD hdD hW => ⟨[(19, .bool true), (33, undef)], ⟨.inl ⟨2, some (.bool true), rfl, rfl, rfl⟩, .inl ⟨16, some (undef), rfl, rfl, rfl⟩, trivial⟩, fun Lr => t_skip rfl rfl rfl (t_nil' fun a ha => ⟨rfl, _, (fun v' h => by cases h; rfl), ha, hW⟩)⟩
          · exact fun D ρ w hcD hnD hdD hW => ⟨[(19, .bool true), (34, undef)], ⟨.inl ⟨2, some (.bool true), rfl, rfl, rfl⟩, .inl ⟨17, some (undef), rfl, rfl, rfl⟩, trivial⟩, fun Lr => t_skip rfl rfl rfl (t_nil' fun a ha => ⟨rfl, _, (fun v' h => by cases h; rfl), ha, hW⟩)⟩
          · exact fun D ρ w hcD hnD hdD hW => ⟨[(19, .bool true), (27, undef), (35, undef)], ⟨.inl ⟨2, some (.bool true), rfl, rfl, rfl⟩, .inl ⟨10, some (undef), rfl, rfl, rfl⟩, .inl ⟨18, some (undef), rfl, rfl, rfl⟩, trivial⟩, fun Lr => t_skip rfl rfl rfl (t_nil' fun a ha => ⟨rfl, _, (fun v' h => by cases h; rfl), ha, hW⟩)⟩
          · exact fun D ρ w hcD hnD hdD hW => ⟨[(6, .pointer (some ⟨bk16, 0, none⟩)), (19, .bool true)], ⟨.inr ⟨rfl, rfl⟩, .inl ⟨2, some (.bool true), rfl, rfl, rfl⟩, trivial⟩, fun Lr => t_skip rfl rfl rfl (t_nil' fun a ha => ⟨rfl, _, (fun v' h => by cases h; rfl), ha, hW⟩)⟩
          · exact fun D ρ w hcD hnD hdD hW => ⟨[(19, .bool true), (37, undef)], ⟨.inl ⟨2, some (.bool true), rfl, rfl, rfl⟩, .inl ⟨20, some (undef), rfl, rfl, rfl⟩, trivial⟩, fun Lr => t_skip rfl rfl rfl (t_nil' fun a ha => ⟨rfl, _, (fun v' h => by cases h; rfl), ha, hW⟩)⟩
          · exact fun D ρ w hcD hnD hdD hW => ⟨[(19, .bool true), (36, undef), (38, undef)], ⟨.inl ⟨2, some (.bool true), rfl, rfl, rfl⟩, .inl ⟨19, some (undef), rfl, rfl, rfl⟩, .inl ⟨21, some (undef), rfl, rfl, rfl⟩, trivial⟩, fun Lr => t_skip rfl rfl rfl (t_nil' fun a ha => ⟨rfl, _, (fun v' h => by cases h; rfl), ha, hW⟩)⟩
          · exact fun D ρ w hcD hnD hdD hW => ⟨[(19, .bool true), (39, undef)], ⟨.inl ⟨2, some (.bool true), rfl, rfl, rfl⟩, .inl ⟨22, some (undef), rfl, rfl, rfl⟩, trivial⟩, fun Lr => t_pick_t rfl rfl rfl rfl (t_nil' fun a ha => ⟨rfl, _, (fun v' h => by cases h; rfl), ha, hW⟩)⟩
          · exact fun D ρ w hcD hnD hdD hW => ⟨[(40, .bool true)], ⟨.inl ⟨23, some (.bool true), rfl, rfl, rfl⟩, trivial⟩, fun Lr => t_move rfl rfl rfl (t_nil' fun a ha => ⟨rfl, _, (fun v' h => by cases h; rfl), ha, hW⟩)⟩
          · -- 25
            intro D ρ w61 hcD hnD hdD hW
            obtain ⟨u62, F63, F64, F65⟩ := hW
            have u66 := u62 (hcD.late 53 (hcD.late 50 (hcD.late 37 (hcD.late 36 (hcD.late 35 (hcD.late 34 (hcD.late 33 (hcD.late 31 (hcD.late 30 (hcD.late 28 (hcD.late 27 (hcD.late 26 hnD rfl) rfl) rfl) rfl) rfl) rfl) rfl) rfl) rfl) rfl) rfl) rfl)
            have zu66 := u66.size
            have E67 := E24.next u66 (fun _ _ h => h.elim)
            refine ⟨[(1, .pointer (some ⟨b3, 0, none⟩)), (41, .bool true)], ⟨.inr ⟨rfl, rfl⟩, .inl ⟨24, some (.bool true), rfl, rfl, rfl⟩, trivial⟩, fun Lr => ?_⟩
            show WL _ _ _ _ _ _ _ ((1, .pointer (some ⟨b3, 0, none⟩)) :: (41, .bool true) :: Lr) _
            have B68 := ((((h3.keep u4 (show ¬ (T b3) by first | omega | assumption)).keep u19 (fun h => h)).keep u22 (show ¬ (b3 = bk16) by first | omega | assumption)).keep u66 (fun h => h))
            refine t_load Try.isAgg124 rfl rfl rfl (B68.get rfl) ?_
            refine t_nil' ?_
            exact fun a ha => ⟨rfl, _, (fun v' h => by cases h; rfl), ha, ⟨u62, F63, F64, F65⟩⟩
          · exact fun D ρ w hcD hnD hdD hW => ⟨[(41, .bool true), (42, .pointer (some ⟨t, 0, none⟩))], ⟨.inl ⟨24, some (.bool true), rfl, rfl, rfl⟩, .inl ⟨25, some (.pointer (some ⟨t, 0, none⟩)), rfl, rfl, rfl⟩, trivial⟩, fun Lr => t_nilchk rfl rfl rfl (t_nil' fun a ha => ⟨rfl, _, (fun v' h => by cases h; rfl), ha, hW⟩)⟩
          · exact fun D ρ w hcD hnD hdD hW => ⟨[(41, .bool true), (43, .pointer (some ⟨t, 0, none⟩))], ⟨.inl ⟨24, some (.bool true), rfl, rfl, rfl⟩, .inl ⟨26, some (.pointer (some ⟨t, 0, none⟩)), rfl, rfl, rfl⟩, trivial⟩, fun Lr => t_field Try.underlying160 rfl Try.sizeOf158 (2) rfl rfl rfl rfl (t_nil' fun a ha => ⟨rfl, _, (fun v' h => by cases h; rfl), ha, hW⟩)⟩
          · -- 28
            intro D ρ w69 hcD hnD hdD hW
            obtain ⟨u70, F71, F72, F73⟩ := hW
            have u74 := u70 (hcD.late 53 (hcD.late 50 (hcD.late 37 (hcD.late 36 (hcD.late 35 (hcD.late 34 (hcD.late 33 (hcD.late 31 (hcD.late 30 hnD rfl) rfl) rfl) rfl) rfl) rfl) rfl) rfl) rfl)
            have zu74 := u74.size
            have E75 := E24.next u74 (fun _ _ h => h.elim)
            refine ⟨[(41, .bool true), (44, .pointer (some ⟨t, 2, none⟩))], ⟨.inl ⟨24, some (.bool true), rfl, rfl, rfl⟩, .inl ⟨27, some (.pointer (some ⟨t, 2, none⟩)), rfl, rfl, rfl⟩, trivial⟩, fun Lr => ?_⟩
            show WL _ _ _ _ _ _ _ ((41, .bool true) :: (44, .pointer (some ⟨t, 2, none⟩)) :: Lr) _
            have B76 := ((((htb.keep u4 (show ¬ (T t) by first | omega | assumption)).keep u19 (fun h => h)).keep u22 (show ¬ (t = bk16) by first | omega | assumption)).keep u74 (fun h => h))
            refine t_load Try.isAgg158 rfl rfl rfl (B76.get rfl) ?_
            refine t_nil' ?_
            exact fun a ha => ⟨rfl, _, (fun v' h => by cases h; rfl), ha, ⟨u70, F71, F72, F73⟩⟩
          · -- 29
            intro D ρ w77 hcD hnD hdD hW
            obtain ⟨u78, F79, F80, F81⟩ := hW
            have u82 := u78 (hcD.late 53 (hcD.late 50 (hcD.late 37 (hcD.late 36 (hcD.late 35 (hcD.late 34 (hcD.late 33 (hcD.late 31 (hcD.late 30 hnD rfl) rfl) rfl) rfl) rfl) rfl) rfl) rfl) rfl)
            have zu82 := u82.size
            have E83 := E24.next u82 (fun _ _ h => h.elim)
            refine ⟨[(2, .pointer (some ⟨b4, 0, none⟩)), (41, .bool true)], ⟨.inr ⟨rfl, rfl⟩, .inl ⟨24, some (.bool true), rfl, rfl, rfl⟩, trivial⟩, fun Lr => ?_⟩
            show WL _ _ _ _ _ _ _ ((2, .pointer (some ⟨b4, 0, none⟩)) :: (41, .bool true) :: Lr) _
            have B84 := ((((h4.keep u4 (show ¬ (T b4) by first | omega | assumption)).keep u19 (fun h => h)).keep u22 (show ¬ (b4 = bk16) by first | omega | assumption)).keep u82 (fun h => h))
            refine t_load Try.isAgg3 rfl rfl rfl (B84.get rfl) ?_
            refine t_nil' ?_
            exact fun a ha => ⟨rfl, _, (fun v' h => by cases h; rfl), ha, ⟨u78, F79, F80, F81⟩⟩
          · -- 30
            intro D ρ w85 hcD hnD hdD hW
            obtain ⟨u86, F87, F88, F89⟩ := hW
            have u90 := u86 (hcD.late 53 (hcD.late 50 (hcD.late 37 (hcD.late 36 (hcD.late 35 (hcD.late 34 (hcD.late 33 (hcD.late 31 hnD rfl) rfl) rfl) rfl) rfl) rfl) rfl) rfl)
            have zu90 := u90.size
            have E91 := E24.next u90 (fun _ _ h => h.elim)
            refine ⟨[(41, .bool true), (45, .slice ar rows.length cr), (46, .int .i64 (i : Int))], ⟨.inl ⟨24, some (.bool true), rfl, rfl, rfl⟩, .inl ⟨28, some (.slice ar rows.length cr), rfl, rfl, rfl⟩, .inl ⟨29, some (.int .i64 (i : Int)), rfl, rfl, rfl⟩, trivial⟩, fun Lr => ?_⟩
            show WL _ _ _ _ _ _ _ ((41, .bool true) :: (45, .slice ar rows.length cr) :: (46, .int .i64 (i : Int)) :: Lr) _
            have D92 := (((D14.keep u19 (fun _ _ h => h)).keep u22 (fun i hi => show ¬ (i = bk16) by omega)).keep u90 (fun _ _ h => h))
            have i93 : i < rows.length := (by omega)
            refine t_index (j := i) Try.underlying158 Try.sizeOf157 rfl rfl rfl rfl (D92.ssl.addr (by omega)) rfl i93 ?_
            refine t_nil' ?_
            exact fun a ha => ⟨rfl, _, (fun v' h => by cases h; rfl), ha, ⟨u86, F87, F88, F89⟩⟩
          · -- 31
            intro D ρ w94 hcD hnD hdD hW
            obtain ⟨u95, F96, F97, F98⟩ := hW
            have u99 := u95 (hcD.late 53 (hcD.late 50 (hcD.late 37 (hcD.late 36 (hcD.late 35 (hcD.late 34 (hcD.late 33 hnD rfl) rfl) rfl) rfl) rfl) rfl) rfl)
            have zu99 := u99.size
            have E100 := E24.next u99 (fun _ _ h => h.elim)
            refine ⟨[(41, .bool true), (47, .pointer (some ⟨br, 0 + i * 1, none⟩))], ⟨.inl ⟨24, some (.bool true), rfl, rfl, rfl⟩, .inl ⟨30, some (.pointer (some ⟨br, 0 + i * 1, none⟩)), rfl, rfl, rfl⟩, trivial⟩, fun Lr => ?_⟩
            show WL _ _ _ _ _ _ _ ((41, .bool true) :: (47, .pointer (some ⟨br, 0 + i * 1, none⟩)) :: Lr) _
            have D101 := (((D14.keep u19 (fun _ _ h => h)).keep u22 (fun i hi => show ¬ (i = bk16) by omega)).keep u99 (fun _ _ h => h))
            refine t_load Try.isAgg157 rfl rfl rfl ((D101.ssl.at_ i (by omega)) 0 _ rfl) ?_
            refine t_nil' ?_
            exact fun a ha => ⟨rfl, _, (fun v' h => by cases h; rfl), ha, ⟨u95, F96, F97, F98⟩⟩
          · exact fun D ρ w hcD hnD hdD hW => ⟨[(5, .int .i64 (k : Int)), (41, .bool true)], ⟨.inr ⟨rfl, rfl⟩, .inl ⟨24, some (.bool true), rfl, rfl, rfl⟩, trivial⟩, fun Lr => t_move rfl rfl rfl (t_nil' fun a ha => ⟨rfl, _, (fun v' h => by cases h; rfl), ha, hW⟩)⟩
          · -- 33
            intro D ρ w102 hcD hnD hdD hW
            obtain ⟨u103, F104, F105, F106⟩ := hW
            have u107 := u103 (hcD.late 53 (hcD.late 50 (hcD.late 37 (hcD.late 36 (hcD.late 35 (hcD.late 34 hnD rfl) rfl) rfl) rfl) rfl) rfl)
            have zu107 := u107.size
            have E108 := E24.next u107 (fun _ _ h => h.elim)
            refine ⟨[(41, .bool true), (48, .slice ((nth rows i).ao) (((nth rows i).ss).length) ((nth rows i).cap)), (49, .int .i64 (k : Int))], ⟨.inl ⟨24, some (.bool true), rfl, rfl, rfl⟩, .inl ⟨31, some (.slice ((nth rows i).ao) (((nth rows i).ss).length) ((nth rows i).cap)), rfl, rfl, rfl⟩, .inl ⟨32, some (.int .i64 (k : Int)), rfl, rfl, rfl⟩, trivial⟩, fun Lr => ?_⟩
            show WL _ _ _ _ _ _ _ ((41, .bool true) :: (48, .slice ((nth rows i).ao) (((nth rows i).ss).length) ((nth rows i).cap)) :: (49, .int .i64 (k : Int)) :: Lr) _
            have D109 := (((D14.keep u19 (fun _ _ h => h)).keep u22 (fun i hi => show ¬ (i = bk16) by omega)).keep u107 (fun _ _ h => h))
            have i110 : k < ((nth rows i).ss).length := (by omega)
            refine t_index (j := k) Try.underlying157 Try.sizeOf141 rfl rfl rfl rfl ((D109.rsl (nth rows i) (nth_mem (by omega))).addr (by omega)) rfl i110 ?_
            refine t_nil' ?_
            exact fun a ha => ⟨rfl, _, (fun v' h => by cases h; rfl), ha, ⟨u103, F104, F105, F106⟩⟩
          · exact fun D ρ w hcD hnD hdD hW => ⟨[(41, .bool true), (50, .pointer (some ⟨(nth rows i).g, 0 + k * 5, none⟩))], ⟨.inl ⟨24, some (.bool true), rfl, rfl, rfl⟩, .inl ⟨33, some (.pointer (some ⟨(nth rows i).g, 0 + k * 5, none⟩)), rfl, rfl, rfl⟩, trivial⟩, fun Lr => t_field Try.underlying141 rfl Try.sizeOf4 (0 + k * 5 + 4) rfl rfl rfl rfl (t_nil' fun a ha => ⟨rfl, _, (fun v' h => by cases h; rfl), ha, hW⟩)⟩
          · -- 35
            intro D ρ w111 hcD hnD hdD hW
            obtain ⟨u112, F113, F114, F115⟩ := hW
            have u116 := u112 (hcD.late 53 (hcD.late 50 (hcD.late 37 (hcD.late 36 hnD rfl) rfl) rfl) rfl)
            have zu116 := u116.size
            have E117 := E24.next u116 (fun _ _ h => h.elim)
            refine ⟨[(41, .bool true), (51, .pointer (some ⟨(nth rows i).g, 0 + k * 5 + 4, none⟩))], ⟨.inl ⟨24, some (.bool true), rfl, rfl, rfl⟩, .inl ⟨34, some (.pointer (some ⟨(nth rows i).g, 0 + k * 5 + 4, none⟩)), rfl, rfl, rfl⟩, trivial⟩, fun Lr => ?_⟩
            show WL _ _ _ _ _ _ _ ((41, .bool true) :: (51, .pointer (some ⟨(nth rows i).g, 0 + k * 5 + 4, none⟩)) :: Lr) _
            have D118 := (((D14.keep u19 (fun _ _ h => h)).keep u22 (fun i hi => show ¬ (i = bk16) by omega)).keep u116 (fun _ _ h => h))
            refine t_load Try.isAgg4 rfl rfl rfl (((D118.rsl (nth rows i) (nth_mem (by omega))).at_ k (by omega)) 4 _ rfl) ?_
            refine t_nil' ?_
            exact fun a ha => ⟨rfl, _, (fun v' h => by cases h; rfl), ha, ⟨u112, F113, F114, F115⟩⟩
          · exact fun D ρ w hcD hnD hdD hW => ⟨[(41, .bool true), (52, .bool ((nth ((nth rows i).ss) k).there))], ⟨.inl ⟨24, some (.bool true), rfl, rfl, rfl⟩, .inl ⟨35, some (.bool ((nth ((nth rows i).ss) k).there)), rfl, rfl, rfl⟩, trivial⟩, fun Lr => t_pick_t rfl rfl rfl rfl (t_nil' fun a ha => ⟨rfl, _, (fun v' h => by cases h; rfl), ha, hW⟩)⟩
          · exact fun D ρ w hcD hnD hdD hW => ⟨[(53, .bool ((nth ((nth rows i).ss) k).there))], ⟨.inl ⟨36, some (.bool ((nth ((nth rows i).ss) k).there)), rfl, rfl, rfl⟩, trivial⟩, fun Lr => t_move rfl rfl rfl (t_samehd (v := .bool true) (by simp [g54]) (t_nil' fun a ha => ⟨rfl, _, (fun v' h => by cases h; rfl), ha, hW⟩))⟩
          · -- 38
            intro D ρ w119 hcD hnD hdD hW
            obtain ⟨u120, F121, F122, F123⟩ := hW
            have u124 := u120 (hcD.late 53 (hcD.late 50 (hcD.late 49 (hcD.late 48 (hcD.late 47 (hcD.late 46 (hcD.late 44 (hcD.late 43 (hcD.late 41 (hcD.late 40 (hcD.late 39 hnD rfl) rfl) rfl) rfl) rfl) rfl) rfl) rfl) rfl) rfl) rfl)
            have zu124 := u124.size
            have E125 := E24.next u124 (fun _ _ h => h.elim)
            refine ⟨[(1, .pointer (some ⟨b3, 0, none⟩)), (54, .bool true)], ⟨.inr ⟨rfl, rfl⟩, .inl ⟨37, some (.bool true), rfl, rfl, rfl⟩, trivial⟩, fun Lr => ?_⟩
            show WL _ _ _ _ _ _ _ ((1, .pointer (some ⟨b3, 0, none⟩)) :: (54, .bool true) :: Lr) _
            have B126 := ((((h3.keep u4 (show ¬ (T b3) by first | omega | assumption)).keep u19 (fun h => h)).keep u22 (show ¬ (b3 = bk16) by first | omega | assumption)).keep u124 (fun h => h))
            refine t_load Try.isAgg124 rfl rfl rfl (B126.get rfl) ?_
            refine t_nil' ?_
            exact fun a ha => ⟨rfl, _, (fun v' h => by cases h; rfl), ha, ⟨u120, F121, F122, F123⟩⟩
          · exact fun D ρ w hcD hnD hdD hW => ⟨[(54, .bool true), (55, .pointer (some ⟨t, 0, none⟩))], ⟨.inl ⟨37, some (.bool true), rfl, rfl, rfl⟩, .inl ⟨38, some (.pointer (some ⟨t, 0, none⟩)), rfl, rfl, rfl⟩, trivial⟩, fun Lr => t_nilchk rfl rfl rfl (t_nil' fun a ha => ⟨rfl, _, (fun v' h => by cases h; rfl), ha, hW⟩)⟩
          · exact fun D ρ w hcD hnD hdD hW => ⟨[(54, .bool true), (56, .pointer (some ⟨t, 0, none⟩))], ⟨.inl ⟨37, some (.bool true), rfl, rfl, rfl⟩, .inl ⟨39, some (.pointer (some ⟨t, 0, none⟩)), rfl, rfl, rfl⟩, trivial⟩, fun Lr => t_field Try.underlying160 rfl Try.sizeOf158 (2) rfl rfl rfl rfl (t_nil' fun a ha => ⟨rfl, _, (fun v' h => by cases h; rfl), ha, hW⟩)⟩
          · -- 41
            intro D ρ w127 hcD hnD hdD hW
            obtain ⟨u128, F129, F130, F131⟩ := hW
            have u132 := u128 (hcD.late 53 (hcD.late 50 (hcD.late 49 (hcD.late 48 (hcD.late 47 (hcD.late 46 (hcD.late 44 (hcD.late 43 hnD rfl) rfl) rfl) rfl) rfl) rfl) rfl) rfl)
            have zu132 := u132.size
            have E133 := E24.next u132 (fun _ _ h => h.elim)
            refine ⟨[(54, .bool true), (57, .pointer (some ⟨t, 2, none⟩))], ⟨.inl ⟨37, some (.bool true), rfl, rfl, rfl⟩, .inl ⟨40, some (.pointer (some ⟨t, 2, none⟩)), rfl, rfl, rfl⟩, trivial⟩, fun Lr => ?_⟩
            show WL _ _ _ _ _ _ _ ((54, .bool true) :: (57, .pointer (some ⟨t, 2, none⟩)) :: Lr) _
            have B134 := ((((htb.keep u4 (show ¬ (T t) by first | omega | assumption)).keep u19 (fun h => h)).keep u22 (show ¬ (t = bk16) by first | omega | assumption)).keep u132 (fun h => h))
            refine t_load Try.isAgg158 rfl rfl rfl (B134.get rfl) ?_
            refine t_nil' ?_
            exact fun a ha => ⟨rfl, _, (fun v' h => by cases h; rfl), ha, ⟨u128, F129, F130, F131⟩⟩
          · -- 42
            intro D ρ w135 hcD hnD hdD hW
            obtain ⟨u136, F137, F138, F139⟩ := hW
            have u140 := u136 (hcD.late 53 (hcD.late 50 (hcD.late 49 (hcD.late 48 (hcD.late 47 (hcD.late 46 (hcD.late 44 (hcD.late 43 hnD rfl) rfl) rfl) rfl) rfl) rfl) rfl) rfl)
            have zu140 := u140.size
            have E141 := E24.next u140 (fun _ _ h => h.elim)
            refine ⟨[(3, .pointer (some ⟨b5, 0, none⟩)), (54, .bool true)], ⟨.inr ⟨rfl, rfl⟩, .inl ⟨37, some (.bool true), rfl, rfl, rfl⟩, trivial⟩, fun Lr => ?_⟩
            show WL _ _ _ _ _ _ _ ((3, .pointer (some ⟨b5, 0, none⟩)) :: (54, .bool true) :: Lr) _
            have B142 := ((((h5.keep u4 (show ¬ (T b5) by first | omega | assumption)).keep u19 (fun h => h)).keep u22 (show ¬ (b5 = bk16) by first | omega | assumption)).keep u140 (fun h => h))
            refine t_load Try.isAgg3 rfl rfl rfl (B142.get rfl) ?_
            refine t_nil' ?_
            exact fun a ha => ⟨rfl, _, (fun v' h => by cases h; rfl), ha, ⟨u136, F137, F138, F139⟩⟩
          · -- 43
            intro D ρ w143 hcD hnD hdD hW
            obtain ⟨u144, F145, F146, F147⟩ := hW
            have u148 := u144 (hcD.late 53 (hcD.late 50 (hcD.late 49 (hcD.late 48 (hcD.late 47 (hcD.late 46 (hcD.late 44 hnD rfl) rfl) rfl) rfl) rfl) rfl) rfl)
            have zu148 := u148.size
            have E149 := E24.next u148 (fun _ _ h => h.elim)
            refine ⟨[(54, .bool true), (58, .slice ar rows.length cr), (59, .int .i64 (j : Int))], ⟨.inl ⟨37, some (.bool true), rfl, rfl, rfl⟩, .inl ⟨41, some (.slice ar rows.length cr), rfl, rfl, rfl⟩, .inl ⟨42, some (.int .i64 (j : Int)), rfl, rfl, rfl⟩, trivial⟩, fun Lr => ?_⟩
            show WL _ _ _ _ _ _ _ ((54, .bool true) :: (58, .slice ar rows.length cr) :: (59, .int .i64 (j : Int)) :: Lr) _
            have D150 := (((D14.keep u19 (fun _ _ h => h)).keep u22 (fun i hi => show ¬ (i = bk16) by omega)).keep u148 (fun _ _ h => h))
            have i151 : j < rows.length := (by omega)
            refine t_index (j := j) Try.underlying158 Try.sizeOf157 rfl rfl rfl rfl (D150.ssl.addr (by omega)) rfl i151 ?_
            refine t_nil' ?_
            exact fun a ha => ⟨rfl, _, (fun v' h => by cases h; rfl), ha, ⟨u144, F145, F146, F147⟩⟩
          · -- 44
            intro D ρ w152 hcD hnD hdD hW
            obtain ⟨u153, F154, F155, F156⟩ := hW
            have u157 := u153 (hcD.late 53 (hcD.late 50 (hcD.late 49 (hcD.late 48 (hcD.late 47 (hcD.late 46 hnD rfl) rfl) rfl) rfl) rfl) rfl)
            have zu157 := u157.size
            have E158 := E24.next u157 (fun _ _ h => h.elim)
            refine ⟨[(54, .bool true), (60, .pointer (some ⟨br, 0 + j * 1, none⟩))], ⟨.inl ⟨37, some (.bool true), rfl, rfl, rfl⟩, .inl ⟨43, some (.pointer (some ⟨br, 0 + j * 1, none⟩)), rfl, rfl, rfl⟩, trivial⟩, fun Lr => ?_⟩
            show WL _ _ _ _ _ _ _ ((54, .bool true) :: (60, .pointer (some ⟨br, 0 + j * 1, none⟩)) :: Lr) _
            have D159 := (((D14.keep u19 (fun _ _ h => h)).keep u22 (fun i hi => show ¬ (i = bk16) by omega)).keep u157 (fun _ _ h => h))
            refine t_load Try.isAgg157 rfl rfl rfl ((D159.ssl.at_ j (by omega)) 0 _ rfl) ?_
            refine t_nil' ?_
            exact fun a ha => ⟨rfl, _, (fun v' h => by cases h; rfl), ha, ⟨u153, F154, F155, F156⟩⟩
          · exact fun D ρ w hcD hnD hdD hW => ⟨[(5, .int .i64 (k : Int)), (54, .bool true)], ⟨.inr ⟨rfl, rfl⟩, .inl ⟨37, some (.bool true), rfl, rfl, rfl⟩, trivial⟩, fun Lr => t_move rfl rfl rfl (t_nil' fun a ha => ⟨rfl, _, (fun v' h => by cases h; rfl), ha, hW⟩)⟩
          · -- 46
            intro D ρ w160 hcD hnD hdD hW
            obtain ⟨u161, F162, F163, F164⟩ := hW
            have u165 := u161 (hcD.late 53 (hcD.late 50 (hcD.late 49 (hcD.late 48 (hcD.late 47 hnD rfl) rfl) rfl) rfl) rfl)
            have zu165 := u165.size
            have E166 := E24.next u165 (fun _ _ h => h.elim)
            refine ⟨[(54, .bool true), (61, .slice ((nth rows j).ao) (((nth rows j).ss).length) ((nth rows j).cap)), (62, .int .i64 (k : Int))], ⟨.inl ⟨37, some (.bool true), rfl, rfl, rfl⟩, .inl ⟨44, some (.slice ((nth rows j).ao) (((nth rows j).ss).length) ((nth rows j).cap)), rfl, rfl, rfl⟩, .inl ⟨45, some (.int .i64 (k : Int)), rfl, rfl, rfl⟩, trivial⟩, fun Lr => ?_⟩
            show WL _ _ _ _ _ _ _ ((54, .bool true) :: (61, .slice ((nth rows j).ao) (((nth rows j).ss).length) ((nth rows j).cap)) :: (62, .int .i64 (k : Int)) :: Lr) _
            have D167 := (((D14.keep u19 (fun _ _ h => h)).keep u22 (fun i hi => show ¬ (i = bk16) by omega)).keep u165 (fun _ _ h => h))
            have i168 : k < ((nth rows j).ss).length := (by omega)
            refine t_index (j := k) Try.underlying157 Try.sizeOf141 rfl rfl rfl rfl ((D167.rsl (nth rows j) (nth_mem (by omega))).addr (by omega)) rfl i168 ?_
            refine t_nil' ?_
            exact fun a ha => ⟨rfl, _, (fun v' h => by cases h; rfl), ha, ⟨u161, F162, F163, F164⟩⟩
          · exact fun D ρ w hcD hnD hdD hW => ⟨[(54, .bool true), (63, .pointer (some ⟨(nth rows j).g, 0 + k * 5, none⟩))], ⟨.inl ⟨37, some (.bool true), rfl, rfl, rfl⟩, .inl ⟨46, some (.pointer (some ⟨(nth rows j).g, 0 + k * 5, none⟩)), rfl, rfl, rfl⟩, trivial⟩, fun Lr => t_field Try.underlying141 rfl Try.sizeOf4 (0 + k * 5 + 4) rfl rfl rfl rfl (t_nil' fun a ha => ⟨rfl, _, (fun v' h => by cases h; rfl), ha, hW⟩)⟩
          · -- 48
            intro D ρ w169 hcD hnD hdD hW
            obtain ⟨u170, F171, F172, F173⟩ := hW
            have u174 := u170 (hcD.late 53 (hcD.late 50 (hcD.late 49 hnD rfl) rfl) rfl)
            have zu174 := u174.size
            have E175 := E24.next u174 (fun _ _ h => h.elim)
            refine ⟨[(54, .bool true), (64, .pointer (some ⟨(nth rows j).g, 0 + k * 5 + 4, none⟩))], ⟨.inl ⟨37, some (.bool true), rfl, rfl, rfl⟩, .inl ⟨47, some (.pointer (some ⟨(nth rows j).g, 0 + k * 5 + 4, none⟩)), rfl, rfl, rfl⟩, trivial⟩, fun Lr => ?_⟩
            show WL _ _ _ _ _ _ _ ((54, .bool true) :: (64, .pointer (some ⟨(nth rows j).g, 0 + k * 5 + 4, none⟩)) :: Lr) _
            have D176 := (((D14.keep u19 (fun _ _ h => h)).keep u22 (fun i hi => show ¬ (i = bk16) by omega)).keep u174 (fun _ _ h => h))
            refine t_load Try.isAgg4 rfl rfl rfl (((D176.rsl (nth rows j) (nth_mem (by omega))).at_ k (by omega)) 4 _ rfl) ?_
            refine t_nil' ?_
            exact fun a ha => ⟨rfl, _, (fun v' h => by cases h; rfl), ha, ⟨u170, F171, F172, F173⟩⟩
          · exact fun D ρ w hcD hnD hdD hW => ⟨[(54, .bool true), (65, .bool ((nth ((nth rows j).ss) k).there))], ⟨.inl ⟨37, some (.bool true), rfl, rfl, rfl⟩, .inl ⟨48, some (.bool ((nth ((nth rows j).ss) k).there)), rfl, rfl, rfl⟩, trivial⟩, fun Lr => t_pick_t rfl rfl rfl rfl (t_nil' fun a ha => ⟨rfl, _, (fun v' h => by cases h; rfl), ha, hW⟩)⟩
          · exact fun D ρ w hcD hnD hdD hW => ⟨[(66, .bool ((nth ((nth rows j).ss) k).there))], ⟨.inl ⟨49, some (.bool ((nth ((nth rows j).ss) k).there)), rfl, rfl, rfl⟩, trivial⟩, fun Lr => t_move rfl rfl rfl (t_samehd (v := .bool true) (by simp [g67]) (t_nil' fun a ha => ⟨rfl, _, (fun v' h => by cases h; rfl), ha, hW⟩))⟩
          · exact fun D ρ w hcD hnD hdD hW => ⟨[(0, .func (.yield l) #[] #[]), (67, .bool true)], ⟨.inr ⟨rfl, rfl⟩, .inl ⟨50, some (.bool true), rfl, rfl, rfl⟩, trivial⟩, fun Lr => t_move rfl rfl rfl (t_nil' fun a ha => ⟨rfl, _, (fun v' h => by cases h; rfl), ha, hW⟩)⟩
          · exact fun D ρ w hcD hnD hdD hW => ⟨[(5, .int .i64 (k : Int)), (67, .bool true)], ⟨.inr ⟨rfl, rfl⟩, .inl ⟨50, some (.bool true), rfl, rfl, rfl⟩, trivial⟩, fun Lr => t_move rfl rfl rfl (t_nil' fun a ha => ⟨rfl, _, (fun v' h => by cases h; rfl), ha, hW⟩)⟩
          · -- 53
            intro D ρ w177 hcD hnD hdD hW
            obtain ⟨u178, F179, F180, F181⟩ := hW
            have u182 := u178 hnD
            have zu182 := u182.size
            have E183 := E24.next u182 (fun _ _ h => h.elim)
            refine ⟨[(67, .bool true), (68, .func (.yield l) #[] #[]), (69, .int .i64 (k : Int))], ⟨.inl ⟨50, some (.bool true), rfl, rfl, rfl⟩, .inl ⟨51, some (.func (.yield l) #[] #[]), rfl, rfl, rfl⟩, .inl ⟨52, some (.int .i64 (k : Int)), rfl, rfl, rfl⟩, trivial⟩, fun Lr => ?_⟩
            show WL _ _ _ _ _ _ _ ((67, .bool true) :: (68, .func (.yield l) #[] #[]) :: (69, .int .i64 (k : Int)) :: Lr) _
            refine t_yield (vs := [.int .i64 (k : Int)]) rfl rfl rfl rfl (hY pre ⟨k, hkn⟩ _ (hJ _ _ _ none hJk (Ext.grownBy ((((Upd.refl (fun _ => False) _).next u19 (fun _ _ h => h.elim)).next u22 (fun i hi (h : i = bk16) => show False by first | omega | assumption)).next u182 (fun _ _ h => h.elim))) (fun r e => by cases e)) hpl21) (by rintro e w' (⟨rfl, _⟩ | ⟨rfl, _⟩) <;> exact ⟨_, rfl⟩) (fun v184 w185 r186 => ?_)
            obtain ⟨yb, rfl, hrd⟩ : ∃ b, v184 = .bool b ∧ ((b = true → J (pre ++ [⟨k, hkn⟩]) w185 ∧ Upd T w177 w185) ∧ (b = false → Jx (pre ++ [⟨k, hkn⟩]) w185)) := by
              rcases r186 with ⟨e, h⟩ | ⟨e, h⟩
              · injection e with e; exact ⟨true, e, fun _ => h, fun h => by cases h⟩
              · injection e with e; exact ⟨false, e, fun h => (by cases h), fun _ => h⟩
            refine t_nil' ?_
            exact fun a ha => ⟨rfl, _, (fun v' h => by cases h), ha, ⟨(fun h => by cases h), (fun _ => ⟨yb, rfl, ⟨fun h => ⟨(hrd.1 h).1, (Ext.to u182).trans (hrd.1 h).2⟩, hrd.2⟩⟩), (fun h => absurd ((hcD.late 54 hnD rfl).symm.trans h) (by decide)), (fun h => absurd ((hcD.late 55 (hcD.late 54 hnD rfl) rfl).symm.trans h) (by decide))⟩⟩
          · -- 54
            intro D ρ w187 hcD hnD hdD hW
            obtain ⟨u188, F189, F190, F191⟩ := hW
            obtain ⟨yb, e193, e192⟩ := F189 (hdD 53 rfl)
            refine ⟨[(67, .bool true), (70, .bool yb)], ⟨.inl ⟨50, some (.bool true), rfl, rfl, rfl⟩, .inl ⟨53, none, rfl, rfl, e193.symm⟩, trivial⟩, fun Lr => ?_⟩
            show WL _ _ _ _ _ _ _ ((67, .bool true) :: (70, .bool yb) :: Lr) _
            refine t_not rfl rfl rfl ?_
            refine t_nil' ?_
            exact fun a ha => ⟨rfl, _, (fun v' h => by cases h), ha, ⟨u188, F189, (fun _ => ⟨yb, e193, rfl⟩), F191⟩⟩
          · -- 55
            intro D ρ w194 hcD hnD hdD hW
            obtain ⟨u195, F196, F197, F198⟩ := hW
            obtain ⟨yb, e200, e199⟩ := F197 (hdD 54 rfl)
            refine ⟨[(67, .bool true), (71, .bool (!yb))], ⟨.inl ⟨50, some (.bool true), rfl, rfl, rfl⟩, .inl ⟨54, none, rfl, rfl, e199.symm⟩, trivial⟩, fun Lr => ?_⟩
            show WL _ _ _ _ _ _ _ ((67, .bool true) :: (71, .bool (!yb)) :: Lr) _
            refine t_pick_t rfl rfl rfl rfl ?_
            refine t_nil' ?_
            exact fun a ha => ⟨rfl, _, (fun v' h => by cases h), ha, ⟨u195, F196, F197, (fun _ => ⟨yb, e200, rfl⟩)⟩⟩
          intro ρ w201 hW
          obtain ⟨u202, F203, F204, F205⟩ := hW
          obtain ⟨yb, e206, hrd⟩ := F203 rfl
          obtain ⟨b208, e209, e207⟩ := F204 rfl
          obtain rfl : yb = b208 := Value.bool.inj (e206.symm.trans e209)
          obtain ⟨b211, e212, e210⟩ := F205 rfl
          obtain rfl : yb = b211 := Value.bool.inj (e206.symm.trans e212)
          refine QK.weak [(0, .func (.yield l) #[] #[]), (1, .pointer (some ⟨b3, 0, none⟩)), (2, .pointer (some ⟨b4, 0, none⟩)), (3, .pointer (some ⟨b5, 0, none⟩)), (5, .int .i64 (k : Int)), (6, .pointer (some ⟨bk16, 0, none⟩)), (10, .slice an ns.length cn), (11, .int .i64 (ns.length : Int)), (12, .int .i64 (k : Int)), (13, .bool (decide ((k : Int) < (ns.length : Int)))), (14, .int .i64 (k : Int)), (15, .pointer (some ⟨bn, on + k * 4, none⟩)), (16, .agg #[.int .i64 ((nth ns k).frm), .int .i64 ((nth ns k).to), .int .i64 ((nth ns k).wid), .bool ((nth ns k).single)]), (17, .pointer (some ⟨bk16, 3, none⟩)), (18, .bool ((nth ns k).single)), (19, .bool true), (40, .bool true), (41, .bool true), (42, .pointer (some ⟨t, 0, none⟩)), (43, .pointer (some ⟨t, 0, none⟩)), (44, .pointer (some ⟨t, 2, none⟩)), (45, .slice ar rows.length cr), (46, .int .i64 (i : Int)), (47, .pointer (some ⟨br, 0 + i * 1, none⟩)), (48, .slice ((nth rows i).ao) (((nth rows i).ss).length) ((nth rows i).cap)), (49, .int .i64 (k : Int)), (50, .pointer (some ⟨(nth rows i).g, 0 + k * 5, none⟩)), (51, .pointer (some ⟨(nth rows i).g, 0 + k * 5 + 4, none⟩)), (52, .bool ((nth ((nth rows i).ss) k).there)), (53, .bool ((nth ((nth rows i).ss) k).there)), (54, .bool true), (55, .pointer (some ⟨t, 0, none⟩)), (56, .pointer (some ⟨t, 0, none⟩)), (57, .pointer (some ⟨t, 2, none⟩)), (58, .slice ar rows.length cr), (59, .int .i64 (j : Int)), (60, .pointer (some ⟨br, 0 + j * 1, none⟩)), (61, .slice ((nth rows j).ao) (((nth rows j).ss).length) ((nth rows j).cap)), (62, .int .i64 (k : Int)), (63, .pointer (some ⟨(nth rows j).g, 0 + k * 5, none⟩)), (64, .pointer (some ⟨(nth rows j).g, 0 + k * 5 + 4, none⟩)), (65, .bool ((nth ((nth rows j).ss) k).there)), (66, .bool ((nth ((nth rows j).ss) k).there)), (67, .bool true), (68, .func (.yield l) #[] #[]), (69, .int .i64 (k : Int)), (70, .bool yb), (71, .bool (!yb)), (72, .bool (!yb))] ⟨rfl, rfl, rfl, rfl, rfl, rfl, rfl, rfl, rfl, rfl, rfl, rfl, rfl, rfl, rfl, rfl, rfl, rfl, rfl, rfl, rfl, rfl, rfl, rfl, rfl, rfl, rfl, rfl, rfl, rfl, rfl, rfl, rfl, rfl, rfl, rfl, rfl, rfl, rfl, rfl, rfl, rfl, rfl, rfl, rfl, rfl, (look_nd (j := 53) rfl rfl rfl e206), (look_nd (j := 54) rfl rfl rfl e207), (look_nd (j := 55) rfl rfl rfl e210), trivial⟩ ?_
          refine hK25 _ _ ?_
          refine c_cond rfl (fun g72 => ?_) (fun g72 => ?_)
          · -- .bool (!yb)
            refine c_ret ?_
            refine f_ret0 Try.results108 ?_
            exact ⟨_, rfl, .inr ⟨_, hrd.2 (by simpa using g72)⟩⟩
          · -- not .bool (!yb)
            obtain ⟨hJ2, u213⟩ := hrd.1 (by simpa using g72)
            have zu213 := u213.size
            have E214 := E24.next u213 (fun i hi (h : T i) => show T i by first | omega | assumption)
            refine c_skip ?_
            refine hK12 _ _ ?_
            refine c_region ?_
            refine t_ari rfl rfl rfl rfl rfl (by omega) ?_
            refine t_move rfl rfl rfl ?_
            refine t_nil' ?_
            exact hK2 (k + 1, pre ++ [⟨k, hkn⟩]) _ _ (by show ns.length - (k + 1) < ns.length - k; omega) ⟨rfl, rfl, rfl, rfl, rfl, rfl, rfl, trivial⟩ ⟨(((u4.next u19 (fun _ _ h => h.elim)).next u22 (fun i hi (h : i = bk16) => show T i by first | omega | assumption)).next u213 (fun i hi (h : T i) => show T i by first | omega | assumption)), (by omega), (by show (pre ++ [(⟨k, hkn⟩ : Ix ns.length)]).map (·.1) = _; rw [vals_snoc hpre, filter_succ, if_pos (by simp only [barB]; simp_all)]), (by show (pre ++ [_]).length ≤ k + 1; simp; omega), hJ2⟩
        ·
          refine WC.weak [(0, .func (.yield l) #[] #[]), (1, .pointer (some ⟨b3, 0, none⟩)), (2, .pointer (some ⟨b4, 0, none⟩)), (3, .pointer (some ⟨b5, 0, none⟩)), (5, .int .i64 (k : Int)), (6, .pointer (some ⟨bk16, 0, none⟩)), (10, .slice an ns.length cn), (11, .int .i64 (ns.length : Int)), (12, .int .i64 (k : Int)), (13, .bool (decide ((k : Int) < (ns.length : Int)))), (14, .int .i64 (k : Int)), (15, .pointer (some ⟨bn, on + k * 4, none⟩)), (16, .agg #[.int .i64 ((nth ns k).frm), .int .i64 ((nth ns k).to), .int .i64 ((nth ns k).wid), .bool ((nth ns k).single)])] ⟨rfl, rfl, rfl, rfl, rfl, rfl, rfl, rfl, rfl, rfl, rfl, rfl, rfl, trivial⟩ ?_
          refine c_drawn followsS' 56 [some (17, some (.pointer (some ⟨bk16, 3, none⟩))), some (18, some (.bool ((nth ns k).single))), some (19, some (.bool true)), some (20, some (undef)), some (21, some (undef)), some (22, some (undef)), some (23, some (undef)), some (24, some (undef)), some (25, some (undef)), some (26, some (undef)), some (27, some (undef)), some (28, some (undef)), some (29, some (undef)), some (30, some (undef)), some (31, some (undef)), some (32, some (undef)), some (33, some (undef)), some (34, some (undef)), some (35, some (undef)), some (36, some (undef)), some (37, some (undef)), some (38, some (undef)), some (39, some (undef)), some (40, some (.bool true)), some (41, some (.bool true)), some (42, some (.pointer (some ⟨t, 0, none⟩))), some (43, some (.pointer (some ⟨t, 0, none⟩))), some (44, some (.pointer (some ⟨t, 2, none⟩))), some (45, some (.slice ar rows.length cr)), some (46, some (.int .i64 (i : Int))), some (47, some (.pointer (some ⟨br, 0 + i * 1, none⟩))), some (48, some (.slice ((nth rows i).ao) (((nth rows i).ss).length) ((nth rows i).cap))), some (49, some (.int .i64 (k : Int))), some (50, some (.pointer (some ⟨(nth rows i).g, 0 + k * 5, none⟩))), some (51, some (.pointer (some ⟨(nth rows i).g, 0 + k * 5 + 4, none⟩))), some (52, some (.bool ((nth ((nth rows i).ss) k).there))), some (53, some (.bool ((nth ((nth rows i).ss) k).there))), some (54, some (.bool true)), some (55, some (.pointer (some ⟨t, 0, none⟩))), some (56, some (.pointer (some ⟨t, 0, none⟩))), some (57, some (.pointer (some ⟨t, 2, none⟩))), some (58, some (.slice ar rows.length cr)), some (59, some (.int .i64 (j : Int))), some (60, some (.pointer (some ⟨br, 0 + j * 1, none⟩))), some (61, some (.slice ((nth rows j).ao) (((nth rows j).ss).length) ((nth rows j).cap))), some (62, some (.int .i64 (k : Int))), some (63, some (.pointer (some ⟨(nth rows j).g, 0 + k * 5, none⟩))), some (64, some (.pointer (some ⟨(nth rows j).g, 0 + k * 5 + 4, none⟩))), some (65, some (.bool ((nth ((nth rows j).ss) k).there))), some (66, some (.bool ((nth ((nth rows j).ss) k).there))), some (67, some (.bool false)), some (68, some (undef)), some (69, some (undef)), some (70, some (undef)), some (71, some (undef)), some (72, some (.bool false))] [[], [0], [1], [2], [3, 2], [4, 2], [5, 2], [2], [6, 7, 2], [8, 2], [9, 2], [2], [11, 2], [12, 2], [13, 2], [2], [14, 15, 2], [16, 2], [17, 2], [10, 18, 2], [2], [20, 2], [19, 21, 2], [2, 22], [23, 2], [24], [25, 24], [26, 24], [27, 24], [24], [28, 29, 24], [30, 24], [24], [31, 32, 24], [33, 24], [34, 24], [24, 35], [36, 24], [37], [38, 37], [39, 37], [40, 37], [37], [41, 42, 37], [43, 37], [37], [44, 45, 37], [46, 37], [47, 37], [37, 48], [49, 37], [50], [50], [51, 52, 50, 50], [53, 50], [50, 54]] (fun _ _ w => Upd (fun _ => False) w21 w) rfl rfl rfl (by kernel_rfl) (by kernel_rfl) (Upd.drew _).to ⟨?_, ?_, ?_, ?_, ?_, ?_, ?_, ?_, ?_, ?_, ?_, ?_, ?_, ?_, ?_, ?_, ?_, ?_, ?_, ?_, ?_, ?_, ?_, ?_, ?_, ?_, ?_, ?_, ?_, ?_, ?_, ?_, ?_, ?_, ?_, ?_, ?_, ?_, ?_, ?_, ?_, ?_, ?_, ?_, ?_, ?_, ?_, ?_, ?_, ?_, ?_, ?_, ?_, ?_, ?_, ?_, trivial⟩ ?_
          · exact fun D ρ w hcD hnD hdD hW => ⟨[(6, .pointer (some ⟨bk16, 0, none⟩))], ⟨.inr ⟨rfl, rfl⟩, trivial⟩, fun Lr => t_field Try.underlying72 rfl Try.sizeOf4 (3) rfl rfl rfl rfl (t_nil' fun a ha => ⟨rfl, _, (fun v' h => by cases h; rfl), ha, hW⟩)⟩
          · -- 1
            intro D ρ w224 hcD hnD hdD hW
            have zhW := hW.size
            have E226 := E24.next hW (fun _ _ h => h.elim)
            refine ⟨[(17, .pointer (some ⟨bk16, 3, none⟩))], ⟨.inl ⟨0, some (.pointer (some ⟨bk16, 3, none⟩)), rfl, rfl, rfl⟩, trivial⟩, fun Lr => ?_⟩
            show WL _ _ _ _ _ _ _ ((17, .pointer (some ⟨bk16, 3, none⟩)) :: Lr) _
            have B227 := (B23.keep hW (fun h => h))
            refine t_load Try.isAgg4 rfl rfl rfl (B227.get rfl) ?_
            refine t_nil' ?_
            exact fun a ha => ⟨rfl, _, (fun v' h => by cases h; rfl), ha, hW⟩
          · exact fun D ρ w hcD hnD hdD hW => ⟨[(18, .bool ((nth ns k).single))], ⟨.inl ⟨1, some (.bool ((nth ns k).single)), rfl, rfl, rfl⟩, trivial⟩, fun Lr => t_move rfl rfl rfl (t_samehd (v := .bool true) (by simp [g19]) (t_nil' fun a ha => ⟨rfl, _, (fun v' h => by cases h; rfl), ha, hW⟩))⟩
          · exact fun D ρ w hcD hnD hdD hW => ⟨[(1, .pointer (some ⟨b3, 0, none⟩)), (19, .bool true)], ⟨.inr ⟨rfl, rfl⟩, .inl ⟨2, some (.bool true), rfl, rfl, rfl⟩, trivial⟩, fun Lr => t_skip rfl rfl rfl (t_nil' fun a ha => ⟨rfl, _, (fun v' h => by cases h; rfl), ha, hW⟩)⟩
          · exact fun D ρ w hcD hnD hdD hW => ⟨[(19, .bool true), (20, undef)], ⟨.inl ⟨2, some (.bool true), rfl, rfl, rfl⟩, .inl ⟨3, some (undef), rfl, rfl, rfl⟩, trivial⟩, fun Lr => t_skip rfl rfl rfl (t_nil' fun a ha => ⟨rfl, _, (fun v' h => by cases h; rfl), ha, hW⟩)⟩
          · exact fun D ρ w hcD hnD hdD hW => ⟨[(19, .bool true), (21, undef)], ⟨.inl ⟨2, some (.bool true), rfl, rfl, rfl⟩, .inl ⟨4, some (undef), rfl, rfl, rfl⟩, trivial⟩, fun Lr => t_skip rfl rfl rfl (t_nil' fun a ha => ⟨rfl, _, (fun v' h => by cases h; rfl), ha, hW⟩)⟩
          · exact fun D ρ w hcD hnD hdD hW => ⟨[(19, .bool true), (22, undef)], ⟨.inl ⟨2, some (.bool true), rfl, rfl, rfl⟩, .inl ⟨5, some (undef), rfl, rfl, rfl⟩, trivial⟩, fun Lr => t_skip rfl rfl rfl (t_nil' fun a ha => ⟨rfl, _, (fun v' h => by cases h; rfl), ha, hW⟩)⟩
          · exact fun D ρ w hcD hnD hdD hW => ⟨[(2, .pointer (some ⟨b4, 0, none⟩)), (19, .bool true)], ⟨.inr ⟨rfl, rfl⟩, .inl ⟨2, some (.bool true), rfl, rfl, rfl⟩, trivial⟩, fun Lr => t_skip rfl rfl rfl (t_nil' fun a ha => ⟨rfl, _, (fun v' h => by cases h; rfl), ha, hW⟩)⟩
          · exact fun D ρ w hcD hnD hdD hW => ⟨[(19, .bool true), (23, undef), (24, undef)], ⟨.inl ⟨2, some (.bool true), rfl, rfl, rfl⟩, .inl ⟨6, some (undef), rfl, rfl, rfl⟩, .inl ⟨7, some (undef), rfl, rfl, rfl⟩, trivial⟩, fun Lr => t_skip rfl rfl rfl (t_nil' fun a ha => ⟨rfl, _, (fun v' h => by cases h; rfl), ha, hW⟩)⟩
          · exact fun D ρ w hcD hnD hdD hW => ⟨[(19, .bool true), (25, undef)], ⟨.inl ⟨2, some (.bool true), rfl, rfl, rfl⟩, .inl ⟨8, some (undef), rfl, rfl, rfl⟩, trivial⟩, fun Lr => t_skip rfl rfl rfl (t_nil' fun a ha => ⟨rfl, _, (fun v' h => by cases h; rfl), ha, hW⟩)⟩
          · exact fun D ρ w hcD hnD hdD hW => ⟨[(19, .bool true), (26, undef)], ⟨.inl ⟨2, some (.bool true), rfl, rfl, rfl⟩, .inl ⟨9, some (undef), rfl, rfl, rfl⟩, trivial⟩, fun Lr => t_skip rfl rfl rfl (t_nil' fun a ha => ⟨rfl, _, (fun v' h => by cases h; rfl), ha, hW⟩)⟩
          · exact fun D ρ w hcD hnD hdD hW => ⟨[(1, .pointer (some ⟨b3, 0, none⟩)), (19, .bool true)], ⟨.inr ⟨rfl, rfl⟩, .inl ⟨2, some (.bool true), rfl, rfl, rfl⟩, trivial⟩, fun Lr => t_skip rfl rfl rfl (t_nil' fun a ha => ⟨rfl, _, (fun v' h => by cases h; rfl), ha, hW⟩)⟩
          · exact fun D ρ w hcD hnD hdD hW => ⟨[(19, .bool true), (28, undef)], ⟨.inl ⟨2, some (.bool true), rfl, rfl, rfl⟩, .inl ⟨11, some (undef), rfl, rfl, rfl⟩, trivial⟩, fun Lr => t_skip rfl rfl rfl (t_nil' fun a ha => ⟨rfl, _, (fun v' h => by cases h; rfl), ha, hW⟩)⟩
          · exact fun D ρ w hcD hnD hdD hW => ⟨[(19, .bool true), (29, undef)], ⟨.inl ⟨2, some (.bool true), rfl, rfl, rfl⟩, .inl ⟨12, some (undef), rfl, rfl, rfl⟩, trivial⟩, fun Lr => t_skip rfl rfl rfl (t_nil' fun a ha => ⟨rfl, _, (fun v' h => by cases h; rfl), ha, hW⟩)⟩
          · exact fun D ρ w hcD hnD hdD hW => ⟨[(19, .bool true), (30, undef)], ⟨.inl ⟨2, some (.bool true), rfl, rfl, rfl⟩, .inl ⟨13, some (undef), rfl, rfl, rfl⟩, trivial⟩, fun Lr => t_skip rfl rfl rfl (t_nil' fun a ha => ⟨rfl, _, (fun v' h => by cases h; rfl), ha, hW⟩)⟩
          · exact fun D ρ w hcD hnD hdD hW => ⟨[(3, .pointer (some ⟨b5, 0, none⟩)), (19, .bool true)], ⟨.inr ⟨rfl, rfl⟩, .inl ⟨2, some (.bool true), rfl, rfl, rfl⟩, trivial⟩, fun Lr => t_skip rfl rfl rfl (t_nil' fun a ha => ⟨rfl, _, (fun v' h => by cases h; rfl), ha, hW⟩)⟩
          · exact fun D ρ w hcD hnD hdD hW => ⟨[(19, .bool true), (31, undef), (32, undef)], ⟨.inl ⟨2, some (.bool true), rfl, rfl, rfl⟩, .inl ⟨14, some (undef), rfl, rfl, rfl⟩, .inl ⟨15, some (undef), rfl, rfl, rfl⟩, trivial⟩, fun Lr => t_skip rfl rfl rfl (t_nil' fun a ha => ⟨rfl, _, (fun v' h => by cases h; rfl), ha, hW⟩)⟩
          · exact fun D ρ w hcD hnD hdD hW => ⟨[(19, .bool true), (33, undef)], ⟨.inl ⟨2, some (.bool true), rfl, rfl, rfl⟩, .inl ⟨16, some (undef), rfl, rfl, rfl⟩, trivial⟩, fun Lr => t_skip rfl rfl rfl (t_nil' fun a ha => ⟨rfl, _, (fun v' h => by cases h; rfl), ha, hW⟩)⟩
          · exact fun D ρ w hcD hnD hdD hW => ⟨[(19, .bool true), (34, undef)], ⟨.inl ⟨2, some (.bool true), rfl, rfl, rfl⟩, .inl ⟨17, some (undef), rfl, rfl, rfl⟩, trivial⟩, fun Lr => t_skip rfl rfl rfl (t_nil' fun a ha => ⟨rfl, _, (fun v' h => by cases h; rfl), ha, hW⟩)⟩
          · exact fun D ρ w hcD hnD hdD hW => ⟨[(19, .bool true), (27, undef), (35, undef)], ⟨.inl ⟨2, some (.bool true), rfl, rfl, rfl⟩, .inl ⟨10, some (undef), rfl, rfl, rfl⟩, .inl ⟨18, some (undef), rfl, rfl, rfl⟩, trivial⟩, fun Lr => t_skip rfl rfl rfl (t_nil' fun a ha => ⟨rfl, _, (fun v' h => by cases h; rfl), ha, hW⟩)⟩
          · exact fun D ρ w hcD hnD hdD hW => ⟨[(6, .pointer (some ⟨bk16, 0, none⟩)), (19, .bool true)], ⟨.inr ⟨rfl, rfl⟩, .inl ⟨2, some (.bool true), rfl, rfl, rfl⟩, trivial⟩, fun Lr => t_skip rfl rfl rfl (t_nil' fun a ha => ⟨rfl, _, (fun v' h => by cases h; rfl), ha, hW⟩)⟩
          · exact fun D ρ w hcD hnD hdD hW => ⟨[(19, .bool true), (37, undef)], ⟨.inl ⟨2, some (.bool true), rfl, rfl, rfl⟩, .inl ⟨20, some (undef), rfl, rfl, rfl⟩, trivial⟩, fun Lr => t_skip rfl rfl rfl (t_nil' fun a ha => ⟨rfl, _, (fun v' h => by cases h; rfl), ha, hW⟩)⟩
          · exact fun D ρ w hcD hnD hdD hW => ⟨[(19, .bool true), (36, undef), (38, undef)], ⟨.inl ⟨2, some (.bool true), rfl, rfl, rfl⟩, .inl ⟨19, some (undef), rfl, rfl, rfl⟩, .inl ⟨21, some (undef), rfl, rfl, rfl⟩, trivial⟩, fun Lr => t_skip rfl rfl rfl (t_nil' fun a ha => ⟨rfl, _, (fun v' h => by cases h; rfl), ha, hW⟩)⟩
          · exact fun D ρ w hcD hnD hdD hW => ⟨[(19, .bool true), (39, undef)], ⟨.inl ⟨2, some (.bool true), rfl, rfl, rfl⟩, .inl ⟨22, some (undef), rfl, rfl, rfl⟩, trivial⟩, fun Lr => t_pick_t rfl rfl rfl rfl (t_nil' fun a ha => ⟨rfl, _, (fun v' h => by cases h; rfl), ha, hW⟩)⟩
          · exact fun D ρ w hcD hnD hdD hW => ⟨[(40, .bool true)], ⟨.inl ⟨23, some (.bool true), rfl, rfl, rfl⟩, trivial⟩, fun Lr => t_move rfl rfl rfl (t_nil' fun a ha => ⟨rfl, _, (fun v' h => by cases h; rfl), ha, hW⟩)⟩
          · -- 25
            intro D ρ w228 hcD hnD hdD hW
            have zhW := hW.size
            have E230 := E24.next hW (fun _ _ h => h.elim)
            refine ⟨[(1, .pointer (some ⟨b3, 0, none⟩)), (41, .bool true)], ⟨.inr ⟨rfl, rfl⟩, .inl ⟨24, some (.bool true), rfl, rfl, rfl⟩, trivial⟩, fun Lr => ?_⟩
            show WL _ _ _ _ _ _ _ ((1, .pointer (some ⟨b3, 0, none⟩)) :: (41, .bool true) :: Lr) _
            have B231 := ((((h3.keep u4 (show ¬ (T b3) by first | omega | assumption)).keep u19 (fun h => h)).keep u22 (show ¬ (b3 = bk16) by first | omega | assumption)).keep hW (fun h => h))
            refine t_load Try.isAgg124 rfl rfl rfl (B231.get rfl) ?_
            refine t_nil' ?_
            exact fun a ha => ⟨rfl, _, (fun v' h => by cases h; rfl), ha, hW⟩
          · exact fun D ρ w hcD hnD hdD hW => ⟨[(41, .bool true), (42, .pointer (some ⟨t, 0, none⟩))], ⟨.inl ⟨24, some (.bool true), rfl, rfl, rfl⟩, .inl ⟨25, some (.pointer (some ⟨t, 0, none⟩)), rfl, rfl, rfl⟩, trivial⟩, fun Lr => t_nilchk rfl rfl rfl (t_nil' fun a ha => ⟨rfl, _, (fun v' h => by cases h; rfl), ha, hW⟩)⟩
          · exact fun D ρ w hcD hnD hdD hW => ⟨[(41, .bool true), (43, .pointer (some ⟨t, 0, none⟩))], ⟨.inl ⟨24, some (.bool true), rfl, rfl, rfl⟩, .inl ⟨26, some (.pointer (some ⟨t, 0, none⟩)), rfl, rfl, rfl⟩, trivial⟩, fun Lr => t_field Try.underlying160 rfl Try.sizeOf158 (2) rfl rfl rfl rfl (t_nil' fun a ha => ⟨rfl, _, (fun v' h => by cases h; rfl), ha, hW⟩)⟩
          · -- 28
            intro D ρ w232 hcD hnD hdD hW
            have zhW := hW.size
            have E234 := E24.next hW (fun _ _ h => h.elim)
            refine ⟨[(41, .bool true), (44, .pointer (some ⟨t, 2, none⟩))], ⟨.inl ⟨24, some (.bool true), rfl, rfl, rfl⟩, .inl ⟨27, some (.pointer (some ⟨t, 2, none⟩)), rfl, rfl, rfl⟩, trivial⟩, fun Lr => ?_⟩
            show WL _ _ _ _ _ _ _ ((41, .bool true) :: (44, .pointer (some ⟨t, 2, none⟩)) :: Lr) _
            have B235 := ((((htb.keep u4 (show ¬ (T t) by first | omega | assumption)).keep u19 (fun h => h)).keep u22 (show ¬ (t = bk16) by first | omega | assumption)).keep hW (fun h => h))
            refine t_load Try.isAgg158 rfl rfl rfl (B235.get rfl) ?_
            refine t_nil' ?_
            exact fun a ha => ⟨rfl, _, (fun v' h => by cases h; rfl), ha, hW⟩
          · -- 29
            intro D ρ w236 hcD hnD hdD hW
            have zhW := hW.size
            have E238 := E24.next hW (fun _ _ h => h.elim)
            refine ⟨[(2, .pointer (some ⟨b4, 0, none⟩)), (41, .bool true)], ⟨.inr ⟨rfl, rfl⟩, .inl ⟨24, some (.bool true), rfl, rfl, rfl⟩, trivial⟩, fun Lr => ?_⟩
            show WL _ _ _ _ _ _ _ ((2, .pointer (some ⟨b4, 0, none⟩)) :: (41, .bool true) :: Lr) _
            have B239 := ((((h4.keep u4 (show ¬ (T b4) by first | omega | assumption)).keep u19 (fun h => h)).keep u22 (show ¬ (b4 = bk16) by first | omega | assumption)).keep hW (fun h => h))
            refine t_load Try.isAgg3 rfl rfl rfl (B239.get rfl) ?_
            refine t_nil' ?_
            exact fun a ha => ⟨rfl, _, (fun v' h => by cases h; rfl), ha, hW⟩
          · -- 30
            intro D ρ w240 hcD hnD hdD hW
            have zhW := hW.size
            have E242 := E24.next hW (fun _ _ h => h.elim)
            refine ⟨[(41, .bool true), (45, .slice ar rows.length cr), (46, .int .i64 (i : Int))], ⟨.inl ⟨24, some (.bool true), rfl, rfl, rfl⟩, .inl ⟨28, some (.slice ar rows.length cr), rfl, rfl, rfl⟩, .inl ⟨29, some (.int .i64 (i : Int)), rfl, rfl, rfl⟩, trivial⟩, fun Lr => ?_⟩
            show WL _ _ _ _ _ _ _ ((41, .bool true) :: (45, .slice ar rows.length cr) :: (46, .int .i64 (i : Int)) :: Lr) _
            have D243 := (((D14.keep u19 (fun _ _ h => h)).keep u22 (fun i hi => show ¬ (i = bk16) by omega)).keep hW (fun _ _ h => h))
            have i244 : i < rows.length := (by omega)
            refine t_index (j := i) Try.underlying158 Try.sizeOf157 rfl rfl rfl rfl (D243.ssl.addr (by omega)) rfl i244 ?_
            refine t_nil' ?_
            exact fun a ha => ⟨rfl, _, (fun v' h => by cases h; rfl), ha, hW⟩
          · -- 31
            intro D ρ w245 hcD hnD hdD hW
            have zhW := hW.size
            have E247 := E24.next hW (fun _ _ h => h.elim)
            refine ⟨[(41, .bool true), (47, .pointer (some ⟨br, 0 + i * 1, none⟩))], ⟨.inl ⟨24, some (.bool true), rfl, rfl, rfl⟩, .inl ⟨30, some (.pointer (some ⟨br, 0 + i * 1, none⟩)), rfl, rfl, rfl⟩, trivial⟩, fun Lr => ?_⟩
            show WL _ _ _ _ _ _ _ ((41, .bool true) :: (47, .pointer (some ⟨br, 0 + i * 1, none⟩)) :: Lr) _
            have D248 := (((D14.keep u19 (fun _ _ h => h)).keep u22 (fun i hi => show ¬ (i = bk16) by omega)).keep hW (fun _ _ h => h))
            refine t_load Try.isAgg157 rfl rfl rfl ((D248.ssl.at_ i (by omega)) 0 _ rfl) ?_
            refine t_nil' ?_
            exact fun a ha => ⟨rfl, _, (fun v' h => by cases h; rfl), ha, hW⟩
          · exact fun D ρ w hcD hnD hdD hW => ⟨[(5, .int .i64 (k : Int)), (41, .bool true)], ⟨.inr ⟨rfl, rfl⟩, .inl ⟨24, some (.bool true), rfl, rfl, rfl⟩, trivial⟩, fun Lr => t_move rfl rfl rfl (t_nil' fun a ha => ⟨rfl, _, (fun v' h => by cases h; rfl), ha, hW⟩)⟩
          · -- 33
            intro D ρ w249 hcD hnD hdD hW
            have zhW := hW.size
            have E251 := E24.next hW (fun _ _ h => h.elim)
            refine ⟨[(41, .bool true), (48, .slice ((nth rows i).ao) (((nth rows i).ss).length) ((nth rows i).cap)), (49, .int .i64 (k : Int))], ⟨.inl ⟨24, some (.bool true), rfl, rfl, rfl⟩, .inl ⟨31, some (.slice ((nth rows i).ao) (((nth rows i).ss).length) ((nth rows i).cap)), rfl, rfl, rfl⟩, .inl ⟨32, some (.int .i64 (k : Int)), rfl, rfl, rfl⟩, trivial⟩, fun Lr => ?_⟩
            show WL _ _ _ _ _ _ _ ((41, .bool true) :: (48, .slice ((nth rows i).ao) (((nth rows i).ss).length) ((nth rows i).cap)) :: (49, .int .i64 (k : Int)) :: Lr) _
            have D252 := (((D14.keep u19 (fun _ _ h => h)).keep u22 (fun i hi => show ¬ (i = bk16) by omega)).keep hW (fun _ _ h => h))
            have i253 : k < ((nth rows i).ss).length := (by omega)
            refine t_index (j := k) Try.underlying157 Try.sizeOf141 rfl rfl rfl rfl ((D252.rsl (nth rows i) (nth_mem (by omega))).addr (by omega)) rfl i253 ?_
            refine t_nil' ?_
            exact fun a ha => ⟨rfl, _, (fun v' h => by cases h; rfl), ha, hW⟩
          · exact fun D ρ w hcD hnD hdD hW => ⟨[(41, .bool true), (50, .pointer (some ⟨(nth rows i).g, 0 + k * 5, none⟩))], ⟨.inl ⟨24, some (.bool true), rfl, rfl, rfl⟩, .inl ⟨33, some (.pointer (some ⟨(nth rows i).g, 0 + k * 5, none⟩)), rfl, rfl, rfl⟩, trivial⟩, fun Lr => t_field Try.underlying141 rfl Try.sizeOf4 (0 + k * 5 + 4) rfl rfl rfl rfl (t_nil' fun a ha => ⟨rfl, _, (fun v' h => by cases h; rfl), ha, hW⟩)⟩
          · -- 35
            intro D ρ w254 hcD hnD hdD hW
            have zhW := hW.size
            have E256 := E24.next hW (fun _ _ h => h.elim)
            refine ⟨[(41, .bool true), (51, .pointer (some ⟨(nth rows i).g, 0 + k * 5 + 4, none⟩))], ⟨.inl ⟨24, some (.bool true), rfl, rfl, rfl⟩, .inl ⟨34, some (.pointer (some ⟨(nth rows i).g, 0 + k * 5 + 4, none⟩)), rfl, rfl, rfl⟩, trivial⟩, fun Lr => ?_⟩
            show WL _ _ _ _ _ _ _ ((41, .bool true) :: (51, .pointer (some ⟨(nth rows i).g, 0 + k * 5 + 4, none⟩)) :: Lr) _
            have D257 := (((D14.keep u19 (fun _ _ h => h)).keep u22 (fun i hi => show ¬ (i = bk16) by omega)).keep hW (fun _ _ h => h))
            refine t_load Try.isAgg4 rfl rfl rfl (((D257.rsl (nth rows i) (nth_mem (by omega))).at_ k (by omega)) 4 _ rfl) ?_
            refine t_nil' ?_
            exact fun a ha => ⟨rfl, _, (fun v' h => by cases h; rfl), ha, hW⟩
          · exact fun D ρ w hcD hnD hdD hW => ⟨[(41, .bool true), (52, .bool ((nth ((nth rows i).ss) k).there))], ⟨.inl ⟨24, some (.bool true), rfl, rfl, rfl⟩, .inl ⟨35, some (.bool ((nth ((nth rows i).ss) k).there)), rfl, rfl, rfl⟩, trivial⟩, fun Lr => t_pick_t rfl rfl rfl rfl (t_nil' fun a ha => ⟨rfl, _, (fun v' h => by cases h; rfl), ha, hW⟩)⟩
          · exact fun D ρ w hcD hnD hdD hW => ⟨[(53, .bool ((nth ((nth rows i).ss) k).there))], ⟨.inl ⟨36, some (.bool ((nth ((nth rows i).ss) k).there)), rfl, rfl, rfl⟩, trivial⟩, fun Lr => t_move rfl rfl rfl (t_samehd (v := .bool true) (by simp [g54]) (t_nil' fun a ha => ⟨rfl, _, (fun v' h => by cases h; rfl), ha, hW⟩))⟩
          · -- 38
            intro D ρ w258 hcD hnD hdD hW
            have zhW := hW.size
            have E260 := E24.next hW (fun _ _ h => h.elim)
            refine ⟨[(1, .pointer (some ⟨b3, 0, none⟩)), (54, .bool true)], ⟨.inr ⟨rfl, rfl⟩, .inl ⟨37, some (.bool true), rfl, rfl, rfl⟩, trivial⟩, fun Lr => ?_⟩
            show WL _ _ _ _ _ _ _ ((1, .pointer (some ⟨b3, 0, none⟩)) :: (54, .bool true) :: Lr) _
            have B261 := ((((h3.keep u4 (show ¬ (T b3) by first | omega | assumption)).keep u19 (fun h => h)).keep u22 (show ¬ (b3 = bk16) by first | omega | assumption)).keep hW (fun h => h))
            refine t_load Try.isAgg124 rfl rfl rfl (B261.get rfl) ?_
            refine t_nil' ?_
            exact fun a ha => ⟨rfl, _, (fun v' h => by cases h; rfl), ha, hW⟩
          · exact fun D ρ w hcD hnD hdD hW => ⟨[(54, .bool true), (55, .pointer (some ⟨t, 0, none⟩))], ⟨.inl ⟨37, some (.bool true), rfl, rfl, rfl⟩, .inl ⟨38, some (.pointer (some ⟨t, 0, none⟩)), rfl, rfl, rfl⟩, trivial⟩, fun Lr => t_nilchk rfl rfl rfl (t_nil' fun a ha => ⟨rfl, _, (fun v' h => by cases h; rfl), ha, hW⟩)⟩
          · exact fun D ρ w hcD hnD hdD hW => ⟨[(54, .bool true), (56, .pointer (some ⟨t, 0, none⟩))], ⟨.inl ⟨37, some (.bool true), rfl, rfl, rfl⟩, .inl ⟨39, some (.pointer (some ⟨t, 0, none⟩)), rfl, rfl, rfl⟩, trivial⟩, fun Lr => t_field Try.underlying160 rfl Try.sizeOf158 (2) rfl rfl rfl rfl (t_nil' fun a ha => ⟨rfl, _, (fun v' h => by cases h; rfl), ha, hW⟩)⟩
          · -- 41
            intro D ρ w262 hcD hnD hdD hW
            have zhW := hW.size
            have E264 := E24.next hW (fun _ _ h => h.elim)
            refine ⟨[(54, .bool true), (57, .pointer (some ⟨t, 2, none⟩))], ⟨.inl ⟨37, some (.bool true), rfl, rfl, rfl⟩, .inl ⟨40, some (.pointer (some ⟨t, 2, none⟩)), rfl, rfl, rfl⟩, trivial⟩, fun Lr => ?_⟩
            show WL _ _ _ _ _ _ _ ((54, .bool true) :: (57, .pointer (some ⟨t, 2, none⟩)) :: Lr) _
            have B265 := ((((htb.keep u4 (show ¬ (T t) by first | omega | assumption)).keep u19 (fun h => h)).keep u22 (show ¬ (t = bk16) by first | omega | assumption)).keep hW (fun h => h))
            refine t_load Try.isAgg158 rfl rfl rfl (B265.get rfl) ?_
            refine t_nil' ?_
            exact fun a ha => ⟨rfl, _, (fun v' h => by cases h; rfl), ha, hW⟩
          · -- 42
            intro D ρ w266 hcD hnD hdD hW
            have zhW := hW.size
            have E268 := E24.next hW (fun _ _ h => h.elim)
            refine ⟨[(3, .pointer (some ⟨b5, 0, none⟩)), (54, .bool true)], ⟨.inr ⟨rfl, rfl⟩, .inl ⟨37, some (.bool true), rfl, rfl, rfl⟩, trivial⟩, fun Lr => ?_⟩
            show WL _ _ _ _ _ _ _ ((3, .pointer (some ⟨b5, 0, none⟩)) :: (54, .bool true) :: Lr) _
            have B269 := ((((h5.keep u4 (show ¬ (T b5) by first | omega | assumption)).keep u19 (fun h => h)).keep u22 (show ¬ (b5 = bk16) by first | omega | assumption)).keep hW (fun h => h))
            refine t_load Try.isAgg3 rfl rfl rfl (B269.get rfl) ?_
            refine t_nil' ?_
            exact fun a ha => ⟨rfl, _, (fun v' h => by cases h; rfl), ha, hW⟩
          · -- 43
            intro D ρ w270 hcD hnD hdD hW
            have zhW := hW.size
            have E272 := E24.next hW (fun _ _ h => h.elim)
            refine ⟨[(54, .bool true), (58, .slice ar rows.length cr), (59, .int .i64 (j : Int))], ⟨.inl ⟨37, some (.bool true), rfl, rfl, rfl⟩, .inl ⟨41, some (.slice ar rows.length cr), rfl, rfl, rfl⟩, .inl ⟨42, some (.int .i64 (j : Int)), rfl, rfl, rfl⟩, trivial⟩, fun Lr => ?_⟩
            show WL _ _ _ _ _ _ _ ((54, .bool true) :: (58, .slice ar rows.length cr) :: (59, .int .i64 (j : Int)) :: Lr) _
            have D273 := (((D14.keep u19 (fun _ _ h => h)).keep u22 (fun i hi => show ¬ (i = bk16) by omega)).keep hW (fun _ _ h => h))
            have i274 : j < rows.length := (by omega)
            refine t_index (j := j) Try.underlying158 Try.sizeOf157 rfl rfl rfl rfl (D273.ssl.addr (by omega)) rfl i274 ?_
            refine t_nil' ?_
            exact fun a ha => ⟨rfl, _, (fun v' h => by cases h; rfl), ha, hW⟩
          · -- 44
            intro D ρ w275 hcD hnD hdD hW
            have zhW := hW.size
            have E277 := E24.next hW (fun _ _ h => h.elim)
            refine ⟨[(54, .bool true), (60, .pointer (some ⟨br, 0 + j * 1, none⟩))], ⟨.inl ⟨37, some (.bool true), rfl, rfl, rfl⟩, .inl ⟨43, some (.pointer (some ⟨br, 0 + j * 1, none⟩)), rfl, rfl, rfl⟩, trivial⟩, fun Lr => ?_⟩
            show WL _ _ _ _ _ _ _ ((54, .bool true) :: (60, .pointer (some ⟨br, 0 + j * 1, none⟩)) :: Lr) _
            have D278 := (((D14.keep u19 (fun _ _ h => h)).keep u22 (fun i hi => show ¬ (i = bk16) by omega)).keep hW (fun _ _ h => h))
            refine t_load Try.isAgg157 rfl rfl rfl ((D278.ssl.at_ j (by omega)) 0 _ rfl) ?_
            refine t_nil' ?_
            exact fun a ha => ⟨rfl, _, (fun v' h => by cases h; rfl), ha, hW⟩
          · exact fun D ρ w hcD hnD hdD hW => ⟨[(5, .int .i64 (k : Int)), (54, .bool true)], ⟨.inr ⟨rfl, rfl⟩, .inl ⟨37, some (.bool true), rfl, rfl, rfl⟩, trivial⟩, fun Lr => t_move rfl rfl rfl (t_nil' fun a ha => ⟨rfl, _, (fun v' h => by cases h; rfl), ha, hW⟩)⟩
          · -- 46
            intro D ρ w279 hcD hnD hdD hW
            have zhW := hW.size
            have E281 := E24.next hW (fun _ _ h => h.elim)
            refine ⟨[(54, .bool true), (61, .slice ((nth rows j).ao) (((nth rows j).ss).length) ((nth rows j).cap)), (62, .int .i64 (k : Int))], ⟨.inl ⟨37, some (.bool true), rfl, rfl, rfl⟩, .inl ⟨44, some (.slice ((nth rows j).ao) (((nth rows j).ss).length) ((nth rows j).cap)), rfl, rfl, rfl⟩, .inl ⟨45, some (.int .i64 (k : Int)), rfl, rfl, rfl⟩, trivial⟩, fun Lr => ?_⟩
            show WL _ _ _ _ _ _ _ ((54, .bool true) :: (61, .slice ((nth rows j).ao) (((nth rows j).ss).length) ((nth rows j).cap)) :: (62, .int .i64 (k : Int)) :: Lr) _
            have D282 := (((D14.keep u19 (fun _ _ h => h)).keep u22 (fun i hi => show ¬ (i = bk16) by omega)).keep hW (fun _ _ h => h))
            have i283 : k < ((nth rows j).ss).length := (by omega)
            refine t_index (j := k) Try.underlying157 Try.sizeOf141 rfl rfl rfl rfl ((D282.rsl (nth rows j) (nth_mem (by omega))).addr (by omega)) rfl i283 ?_
            refine t_nil' ?_
            exact fun a ha => ⟨rfl, _, (fun v' h => by cases h; rfl), ha, hW⟩
          · exact fun D ρ w hcD hnD hdD hW => ⟨[(54, .bool true), (63, .pointer (some ⟨(nth rows j).g, 0 + k * 5, none⟩))], ⟨.inl ⟨37, some (.bool true), rfl, rfl, rfl⟩, .inl ⟨46, some (.pointer (some ⟨(nth rows j).g, 0 + k * 5, none⟩)), rfl, rfl, rfl⟩, trivial⟩, fun Lr => t_field Try.underlying141 rfl Try.sizeOf4 (0 + k * 5 + 4) rfl rfl rfl rfl (t_nil' fun a ha => ⟨rfl, _, (fun v' h => by cases h; rfl), ha, hW⟩)⟩
          · -- 48
            intro D ρ w284 hcD hnD hdD hW
            have zhW := hW.size
            have E286 := E24.next hW (fun _ _ h => h.elim)
            refine ⟨[(54, .bool true), (64, .pointer (some ⟨(nth rows j).g, 0 + k * 5 + 4, none⟩))], ⟨.inl ⟨37, some (.bool true), rfl, rfl, rfl⟩, .inl ⟨47, some (.pointer (some ⟨(nth rows j).g, 0 + k * 5 + 4, none⟩)), rfl, rfl, rfl⟩, trivial⟩, fun Lr => ?_⟩
            show WL _ _ _ _ _ _ _ ((54, .bool true) :: (64, .pointer (some ⟨(nth rows j).g, 0 + k * 5 + 4, none⟩)) :: Lr) _
            have D287 := (((D14.keep u19 (fun _ _ h => h)).keep u22 (fun i hi => show ¬ (i = bk16) by omega)).keep hW (fun _ _ h => h))
            refine t_load Try.isAgg4 rfl rfl rfl (((D287.rsl (nth rows j) (nth_mem (by omega))).at_ k (by omega)) 4 _ rfl) ?_
            refine t_nil' ?_
            exact fun a ha => ⟨rfl, _, (fun v' h => by cases h; rfl), ha, hW⟩
          · exact fun D ρ w hcD hnD hdD hW => ⟨[(54, .bool true), (65, .bool ((nth ((nth rows j).ss) k).there))], ⟨.inl ⟨37, some (.bool true), rfl, rfl, rfl⟩, .inl ⟨48, some (.bool ((nth ((nth rows j).ss) k).there)), rfl, rfl, rfl⟩, trivial⟩, fun Lr => t_pick_t rfl rfl rfl rfl (t_nil' fun a ha => ⟨rfl, _, (fun v' h => by cases h; rfl), ha, hW⟩)⟩
          · exact fun D ρ w hcD hnD hdD hW => ⟨[(66, .bool ((nth ((nth rows j).ss) k).there))], ⟨.inl ⟨49, some (.bool ((nth ((nth rows j).ss) k).there)), rfl, rfl, rfl⟩, trivial⟩, fun Lr => t_move rfl rfl rfl (t_samehd (v := .bool false) (by simp [g67]) (t_nil' fun a ha => ⟨rfl, _, (fun v' h => by cases h; rfl), ha, hW⟩))⟩
          · exact fun D ρ w hcD hnD hdD hW => ⟨[(0, .func (.yield l) #[] #[]), (67, .bool false)], ⟨.inr ⟨rfl, rfl⟩, .inl ⟨50, some (.bool false), rfl, rfl, rfl⟩, trivial⟩, fun Lr => t_skip rfl rfl rfl (t_nil' fun a ha => ⟨rfl, _, (fun v' h => by cases h; rfl), ha, hW⟩)⟩
          · exact fun D ρ w hcD hnD hdD hW => ⟨[(5, .int .i64 (k : Int)), (67, .bool false)], ⟨.inr ⟨rfl, rfl⟩, .inl ⟨50, some (.bool false), rfl, rfl, rfl⟩, trivial⟩, fun Lr => t_skip rfl rfl rfl (t_nil' fun a ha => ⟨rfl, _, (fun v' h => by cases h; rfl), ha, hW⟩)⟩
          · exact fun D ρ w hcD hnD hdD hW => ⟨[(67, .bool false), (68, undef), (69, undef)], ⟨.inl ⟨50, some (.bool false), rfl, rfl, rfl⟩, .inl ⟨51, some (undef), rfl, rfl, rfl⟩, .inl ⟨52, some (undef), rfl, rfl, rfl⟩, trivial⟩, fun Lr => t_skip rfl rfl rfl (t_nil' fun a ha => ⟨rfl, _, (fun v' h => by cases h; rfl), ha, hW⟩)⟩
          · exact fun D ρ w hcD hnD hdD hW => ⟨[(67, .bool false), (70, undef)], ⟨.inl ⟨50, some (.bool false), rfl, rfl, rfl⟩, .inl ⟨53, some (undef), rfl, rfl, rfl⟩, trivial⟩, fun Lr => t_skip rfl rfl rfl (t_nil' fun a ha => ⟨rfl, _, (fun v' h => by cases h; rfl), ha, hW⟩)⟩
          · exact fun D ρ w hcD hnD hdD hW => ⟨[(67, .bool false), (71, undef)], ⟨.inl ⟨50, some (.bool false), rfl, rfl, rfl⟩, .inl ⟨54, some (undef), rfl, rfl, rfl⟩, trivial⟩, fun Lr => t_pick_f rfl rfl rfl rfl (t_nil' fun a ha => ⟨rfl, _, (fun v' h => by cases h; rfl), ha, hW⟩)⟩
          intro ρ w288 hW
          have u289 : Upd (fun _ => False) w21 w288 := hW
          have zu289 := u289.size
          have E290 := E24.next u289 (fun _ _ h => h.elim)
          refine QK.weak [(0, .func (.yield l) #[] #[]), (1, .pointer (some ⟨b3, 0, none⟩)), (2, .pointer (some ⟨b4, 0, none⟩)), (3, .pointer (some ⟨b5, 0, none⟩)), (5, .int .i64 (k : Int)), (6, .pointer (some ⟨bk16, 0, none⟩)), (10, .slice an ns.length cn), (11, .int .i64 (ns.length : Int)), (12, .int .i64 (k : Int)), (13, .bool (decide ((k : Int) < (ns.length : Int)))), (14, .int .i64 (k : Int)), (15, .pointer (some ⟨bn, on + k * 4, none⟩)), (16, .agg #[.int .i64 ((nth ns k).frm), .int .i64 ((nth ns k).to), .int .i64 ((nth ns k).wid), .bool ((nth ns k).single)]), (17, .pointer (some ⟨bk16, 3, none⟩)), (18, .bool ((nth ns k).single)), (19, .bool true), (40, .bool true), (41, .bool true), (42, .pointer (some ⟨t, 0, none⟩)), (43, .pointer (some ⟨t, 0, none⟩)), (44, .pointer (some ⟨t, 2, none⟩)), (45, .slice ar rows.length cr), (46, .int .i64 (i : Int)), (47, .pointer (some ⟨br, 0 + i * 1, none⟩)), (48, .slice ((nth rows i).ao) (((nth rows i).ss).length) ((nth rows i).cap)), (49, .int .i64 (k : Int)), (50, .pointer (some ⟨(nth rows i).g, 0 + k * 5, none⟩)), (51, .pointer (some ⟨(nth rows i).g, 0 + k * 5 + 4, none⟩)), (52, .bool ((nth ((nth rows i).ss) k).there)), (53, .bool ((nth ((nth rows i).ss) k).there)), (54, .bool true), (55, .pointer (some ⟨t, 0, none⟩)), (56, .pointer (some ⟨t, 0, none⟩)), (57, .pointer (some ⟨t, 2, none⟩)), (58, .slice ar rows.length cr), (59, .int .i64 (j : Int)), (60, .pointer (some ⟨br, 0 + j * 1, none⟩)), (61, .slice ((nth rows j).ao) (((nth rows j).ss).length) ((nth rows j).cap)), (62, .int .i64 (k : Int)), (63, .pointer (some ⟨(nth rows j).g, 0 + k * 5, none⟩)), (64, .pointer (some ⟨(nth rows j).g, 0 + k * 5 + 4, none⟩)), (65, .bool ((nth ((nth rows j).ss) k).there)), (66, .bool ((nth ((nth rows j).ss) k).there)), (67, .bool false), (72, .bool false)] ⟨rfl, rfl, rfl, rfl, rfl, rfl, rfl, rfl, rfl, rfl, rfl, rfl, rfl, rfl, rfl, rfl, rfl, rfl, rfl, rfl, rfl, rfl, rfl, rfl, rfl, rfl, rfl, rfl, rfl, rfl, rfl, rfl, rfl, rfl, rfl, rfl, rfl, rfl, rfl, rfl, rfl, rfl, rfl, rfl, rfl, trivial⟩ ?_
          refine hK25 _ _ ?_
          refine c_cond_f rfl ?_
          refine c_skip ?_
          refine hK12 _ _ ?_
          refine c_region ?_
          refine t_ari rfl rfl rfl rfl rfl (by omega) ?_
          refine t_move rfl rfl rfl ?_
          refine t_nil' ?_
          exact hK2 (k + 1, pre) _ _ (by show ns.length - (k + 1) < ns.length - k; omega) ⟨rfl, rfl, rfl, rfl, rfl, rfl, rfl, trivial⟩ ⟨(((u4.next u19 (fun _ _ h => h.elim)).next u22 (fun i hi (h : i = bk16) => show T i by first | omega | assumption)).next u289 (fun _ _ h => h.elim)), (by omega), (by rw [filter_succ, if_neg (by simp [barB, g67])]; simpa using hpre), (by show pre.length ≤ (k + 1); omega), (hJ _ _ _ none hJk (Ext.grownBy ((((Upd.refl (fun _ => False) _).next u19 (fun _ _ h => h.elim)).next u22 (fun i hi (h : i = bk16) => show False by first | omega | assumption)).next u289 (fun _ _ h => h.elim))) (fun r e => by cases e))⟩
      ·
        refine WC.weak [(0, .func (.yield l) #[] #[]), (1, .pointer (some ⟨b3, 0, none⟩)), (2, .pointer (some ⟨b4, 0, none⟩)), (3, .pointer (some ⟨b5, 0, none⟩)), (5, .int .i64 (k : Int)), (6, .pointer (some ⟨bk16, 0, none⟩)), (10, .slice an ns.length cn), (11, .int .i64 (ns.length : Int)), (12, .int .i64 (k : Int)), (13, .bool (decide ((k : Int) < (ns.length : Int)))), (14, .int .i64 (k : Int)), (15, .pointer (some ⟨bn, on + k * 4, none⟩)), (16, .agg #[.int .i64 ((nth ns k).frm), .int .i64 ((nth ns k).to), .int .i64 ((nth ns k).wid), .bool ((nth ns k).single)])] ⟨rfl, rfl, rfl, rfl, rfl, rfl, rfl, rfl, rfl, rfl, rfl, rfl, rfl, trivial⟩ ?_
        refine c_drawn followsS' 56 [some (17, some (.pointer (some ⟨bk16, 3, none⟩))), some (18, some (.bool ((nth ns k).single))), some (19, some (.bool true)), some (20, some (undef)), some (21, some (undef)), some (22, some (undef)), some (23, some (undef)), some (24, some (undef)), some (25, some (undef)), some (26, some (undef)), some (27, some (undef)), some (28, some (undef)), some (29, some (undef)), some (30, some (undef)), some (31, some (undef)), some (32, some (undef)), some (33, some (undef)), some (34, some (undef)), some (35, some (undef)), some (36, some (undef)), some (37, some (undef)), some (38, some (undef)), some (39, some (undef)), some (40, some (.bool true)), some (41, some (.bool true)), some (42, some (.pointer (some ⟨t, 0, none⟩))), some (43, some (.pointer (some ⟨t, 0, none⟩))), some (44, some (.pointer (some ⟨t, 2, none⟩))), some (45, some (.slice ar rows.length cr)), some (46, some (.int .i64 (i : Int))), some (47, some (.pointer (some ⟨br, 0 + i * 1, none⟩))), some (48, some (.slice ((nth rows i).ao) (((nth rows i).ss).length) ((nth rows i).cap))), some (49, some (.int .i64 (k : Int))), some (50, some (.pointer (some ⟨(nth rows i).g, 0 + k * 5, none⟩))), some (51, some (.pointer (some ⟨(nth rows i).g, 0 + k * 5 + 4, none⟩))), some (52, some (.bool ((nth ((nth rows i).ss) k).there))), some (53, some (.bool ((nth ((nth rows i).ss) k).there))), some (54, some (.bool false)), some (55, some (undef)), some (56, some (undef)), some (57, some (undef)), some (58, some (undef)), some (59, some (undef)), some (60, some (undef)), some (61, some (undef)), some (62, some (undef)), some (63, some (undef)), some (64, some (undef)), some (65, some (undef)), some (66, some (.bool false)), some (67, some (.bool false)), some (68, some (undef)), some (69, some (undef)), some (70, some (undef)), some (71, some (undef)), some (72, some (.bool false))] [[], [0], [1], [2], [3, 2], [4, 2], [5, 2], [2], [6, 7, 2], [8, 2], [9, 2], [2], [11, 2], [12, 2], [13, 2], [2], [14, 15, 2], [16, 2], [17, 2], [10, 18, 2], [2], [20, 2], [19, 21, 2], [2, 22], [23, 2], [24], [25, 24], [26, 24], [27, 24], [24], [28, 29, 24], [30, 24], [24], [31, 32, 24], [33, 24], [34, 24], [24, 35], [36, 24], [37], [38, 37], [39, 37], [40, 37], [37], [41, 42, 37], [43, 37], [37], [44, 45, 37], [46, 37], [47, 37], [37, 48], [49, 37], [50], [50], [51, 52, 50, 50], [53, 50], [50, 54]] (fun _ _ w => Upd (fun _ => False) w21 w) rfl rfl rfl (by kernel_rfl) (by kernel_rfl) (Upd.drew _).to ⟨?_, ?_, ?_, ?_, ?_, ?_, ?_, ?_, ?_, ?_, ?_, ?_, ?_, ?_, ?_, ?_, ?_, ?_, ?_, ?_, ?_, ?_, ?_, ?_, ?_, ?_, ?_, ?_, ?_, ?_, ?_, ?_, ?_, ?_, ?_, ?_, ?_, ?_, ?_, ?_, ?_, ?_, ?_, ?_, ?_, ?_, ?_, ?_, ?_, ?_, ?_, ?_, ?_, ?_, ?_, ?_, trivial⟩ ?_
        · exact fun D ρ w hcD hnD hdD hW => ⟨[(6, .pointer (some ⟨bk16, 0, none⟩))], ⟨.inr ⟨rfl, rfl⟩, trivial⟩, fun Lr => t_field Try.underlying72 rfl Try.sizeOf4 (3) rfl rfl rfl rfl (t_nil' fun a ha => ⟨rfl, _, (fun v' h => by cases h; rfl), ha, hW⟩)⟩
        · -- 1
          intro D ρ w297 hcD hnD hdD hW
          have zhW := hW.size
          have E299 := E24.next hW (fun _ _ h => h.elim)
          refine ⟨[(17, .pointer (some ⟨bk16, 3, none⟩))], ⟨.inl ⟨0, some (.pointer (some ⟨bk16, 3, none⟩)), rfl, rfl, rfl⟩, trivial⟩, fun Lr => ?_⟩
          show WL _ _ _ _ _ _ _ ((17, .pointer (some ⟨bk16, 3, none⟩)) :: Lr) _
          have B300 := (B23.keep hW (fun h => h))
          refine t_load Try.isAgg4 rfl rfl rfl (B300.get rfl) ?_
          refine t_nil' ?_
          exact fun a ha => ⟨rfl, _, (fun v' h => by cases h; rfl), ha, hW⟩
        · exact fun D ρ w hcD hnD hdD hW => ⟨[(18, .bool ((nth ns k).single))], ⟨.inl ⟨1, some (.bool ((nth ns k).single)), rfl, rfl, rfl⟩, trivial⟩, fun Lr => t_move rfl rfl rfl (t_samehd (v := .bool true) (by simp [g19]) (t_nil' fun a ha => ⟨rfl, _, (fun v' h => by cases h; rfl), ha, hW⟩))⟩
        · exact fun D ρ w hcD hnD hdD hW => ⟨[(1, .pointer (some ⟨b3, 0, none⟩)), (19, .bool true)], ⟨.inr ⟨rfl, rfl⟩, .inl ⟨2, some (.bool true), rfl, rfl, rfl⟩, trivial⟩, fun Lr => t_skip rfl rfl rfl (t_nil' fun a ha => ⟨rfl, _, (fun v' h => by cases h; rfl), ha, hW⟩)⟩
        · exact fun D ρ w hcD hnD hdD hW => ⟨[(19, .bool true), (20, undef)], ⟨.inl ⟨2, some (.bool true), rfl, rfl, rfl⟩, .inl ⟨3, some (undef), rfl, rfl, rfl⟩, trivial⟩, fun Lr => t_skip rfl rfl rfl (t_nil' fun a ha => ⟨rfl, _, (fun v' h => by cases h; rfl), ha, hW⟩)⟩
        · exact fun D ρ w hcD hnD hdD hW => ⟨[(19, .bool true), (21, undef)], ⟨.inl ⟨2, some (.bool true), rfl, rfl, rfl⟩, .inl ⟨4, some (undef), rfl, rfl, rfl⟩, trivial⟩, fun Lr => t_skip rfl rfl rfl (t_nil' fun a ha => ⟨rfl, _, (fun v' h => by cases h; rfl), ha, hW⟩)⟩
        · exact fun D ρ w hcD hnD hdD hW => ⟨[(19, .bool true), (22, undef)], ⟨.inl ⟨2, some (.bool true), rfl, rfl, rfl⟩, .inl ⟨5, some (undef), rfl, rfl, rfl⟩, trivial⟩, fun Lr => t_skip rfl rfl rfl (t_nil' fun a ha => ⟨rfl, _, (fun v' h => by cases h; rfl), ha, hW⟩)⟩
        · exact fun D ρ w hcD hnD hdD hW => ⟨[(2, .pointer (some ⟨b4, 0, none⟩)), (19, .bool true)], ⟨.inr ⟨rfl, rfl⟩, .inl ⟨2, some (.bool true), rfl, rfl, rfl⟩, trivial⟩, fun Lr => t_skip rfl rfl rfl (t_nil' fun a ha => ⟨rfl, _, (fun v' h => by cases h; rfl), ha, hW⟩)⟩
        · exact fun D ρ w hcD hnD hdD hW => ⟨[(19, .bool true), (23, undef), (24, undef)], ⟨.inl ⟨2, some (.bool true), rfl, rfl, rfl⟩, .inl ⟨6, some (undef), rfl, rfl, rfl⟩, .inl ⟨7, some (undef), rfl, rfl, rfl⟩, trivial⟩, fun Lr => t_skip rfl rfl rfl (t_nil' fun a ha => ⟨rfl, _, (fun v' h => by cases h; rfl), ha, hW⟩)⟩
        · exact fun D ρ w hcD hnD hdD hW => ⟨[(19, .bool true), (25, undef)], ⟨.inl ⟨2, some (.bool true), rfl, rfl, rfl⟩, .inl ⟨8, some (undef), rfl, rfl, rfl⟩, trivial⟩, fun Lr => t_skip rfl rfl rfl (t_nil' fun a ha => ⟨rfl, _, (fun v' h => by cases h; rfl), ha, hW⟩)⟩
        · exact fun D ρ w hcD hnD hdD hW => ⟨[(19, .bool true), (26, undef)], ⟨.inl ⟨2, some (.bool true), rfl, rfl, rfl⟩, .inl ⟨9, some (undef), rfl, rfl, rfl⟩, trivial⟩, fun Lr => t_skip rfl rfl rfl (t_nil' fun a ha => ⟨rfl, _, (fun v' h => by cases h; rfl), ha, hW⟩)⟩
        · exact fun D ρ w hcD hnD hdD hW => ⟨[(1, .pointer (some ⟨b3, 0, none⟩)), (19, .bool true)], ⟨.inr ⟨rfl, rfl⟩, .inl ⟨2, some (.bool true), rfl, rfl, rfl⟩, trivial⟩, fun Lr => t_skip rfl rfl rfl (t_nil' fun a ha => ⟨rfl, _, (fun v' h => by cases h; rfl), ha, hW⟩)⟩
        · exact fun D ρ w hcD hnD hdD hW => ⟨[(19, .bool true), (28, undef)], ⟨.inl ⟨2, some (.bool true), rfl, rfl, rfl⟩, .inl ⟨11, some (undef), rfl, rfl, rfl⟩, trivial⟩, fun Lr => t_skip rfl rfl rfl (t_nil' fun a ha => ⟨rfl, _, (fun v' h => by cases h; rfl), ha, hW⟩)⟩
        · exact fun D ρ w hcD hnD hdD hW => ⟨[(19, .bool true), (29, undef)], ⟨.inl ⟨2, some (.bool true), rfl, rfl, rfl⟩, .inl ⟨12, some (undef), rfl, rfl, rfl⟩, trivial⟩, fun Lr => t_skip rfl rfl rfl (t_nil' fun a ha => ⟨rfl, _, (fun v' h => by cases h; rfl), ha, hW⟩)⟩
        · exact fun D ρ w hcD hnD hdD hW => ⟨[(19, .bool true), (30, undef)], ⟨.inl ⟨2, some (.bool true), rfl, rfl, rfl⟩, .inl ⟨13, some (undef), rfl, rfl, rfl⟩, trivial⟩, fun Lr => t_skip rfl rfl rfl (t_nil' fun a ha => ⟨rfl, _, (fun v' h => by cases h; rfl), ha, hW⟩)⟩
        · exact fun D ρ w hcD hnD hdD hW => ⟨[(3, .pointer (some ⟨b5, 0, none⟩)), (19, .bool true)], ⟨.inr ⟨rfl, rfl⟩, .inl ⟨2, some (.bool true), rfl, rfl, rfl⟩, trivial⟩, fun Lr => t_skip rfl rfl rfl (t_nil' fun a ha => ⟨rfl, _, (fun v' h => by cases h; rfl), ha, hW⟩)⟩
        · exact fun D ρ w hcD hnD hdD hW => ⟨[(19, .bool true), (31, undef), (32, undef)], ⟨.inl ⟨2, some (.bool true), rfl, rfl, rfl⟩, .inl ⟨14, some (undef), rfl, rfl, rfl⟩, .inl ⟨15, some (undef), rfl, rfl, rfl⟩, trivial⟩, fun Lr => t_skip rfl rfl rfl (t_nil' fun a ha => ⟨rfl, _, (fun v' h => by cases h; rfl), ha, hW⟩)⟩
        · exact fun D ρ w hcD hnD hdD hW => ⟨[(19, .bool true), (33, undef)], ⟨.inl ⟨2, some (.bool true), rfl, rfl, rfl⟩, .inl ⟨16, some (undef), rfl, rfl, rfl⟩, trivial⟩, fun Lr => t_skip rfl rfl rfl (t_nil' fun a ha => ⟨rfl, _, (fun v' h => by cases h; rfl), ha, hW⟩)⟩
        · exact fun D ρ w hcD hnD hdD hW => ⟨[(19, .bool true), (34, undef)], ⟨.inl ⟨2, some (.bool true), rfl, rfl, rfl⟩, .inl ⟨17, some (undef), rfl, rfl, rfl⟩, trivial⟩, fun Lr => t_skip rfl rfl rfl (t_nil' fun a ha => ⟨rfl, _, (fun v' h => by cases h; rfl), ha, hW⟩)⟩
        · exact fun D ρ w hcD hnD hdD hW => ⟨[(19, .bool true), (27, undef), (35, undef)], ⟨.inl ⟨2, some (.bool true), rfl, rfl, rfl⟩, .inl ⟨10, some (undef), rfl, rfl, rfl⟩, .inl ⟨18, some (undef), rfl, rfl, rfl⟩, trivial⟩, fun Lr => t_skip rfl rfl rfl (t_nil' fun a ha => ⟨rfl, _, (fun v' h => by cases h; rfl), ha, hW⟩)⟩
        · exact fun D ρ w hcD hnD hdD hW => ⟨[(6, .pointer (some ⟨bk16, 0, none⟩)), (19, .bool true)], ⟨.inr ⟨rfl, rfl⟩, .inl ⟨2, some (.bool true), rfl, rfl, rfl⟩, trivial⟩, fun Lr => t_skip rfl rfl rfl (t_nil' fun a ha => ⟨rfl, _, (fun v' h => by cases h; rfl), ha, hW⟩)⟩
        · exact fun D ρ w hcD hnD hdD hW => ⟨[(19, .bool true), (37, undef)], ⟨.inl ⟨2, some (.bool true), rfl, rfl, rfl⟩, .inl ⟨20, some (undef), rfl, rfl, rfl⟩, trivial⟩, fun Lr => t_skip rfl rfl rfl (t_nil' fun a ha => ⟨rfl, _, (fun v' h => by cases h; rfl), ha, hW⟩)⟩
        · exact fun D ρ w hcD hnD hdD hW => ⟨[(19, .bool true), (36, undef), (38, undef)], ⟨.inl ⟨2, some (.bool true), rfl, rfl, rfl⟩, .inl ⟨19, some (undef), rfl, rfl, rfl⟩, .inl ⟨21, some (undef), rfl, rfl, rfl⟩, trivial⟩, fun Lr => t_skip rfl rfl rfl (t_nil' fun a ha => ⟨rfl, _, (fun v' h => by cases h; rfl), ha, hW⟩)⟩
        · exact fun D ρ w hcD hnD hdD hW => ⟨[(19, .bool true), (39, undef)], ⟨.inl ⟨2, some (.bool true), rfl, rfl, rfl⟩, .inl ⟨22, some (undef), rfl, rfl, rfl⟩, trivial⟩, fun Lr => t_pick_t rfl rfl rfl rfl (t_nil' fun a ha => ⟨rfl, _, (fun v' h => by cases h; rfl), ha, hW⟩)⟩
        · exact fun D ρ w hcD hnD hdD hW => ⟨[(40, .bool true)], ⟨.inl ⟨23, some (.bool true), rfl, rfl, rfl⟩, trivial⟩, fun Lr => t_move rfl rfl rfl (t_nil' fun a ha => ⟨rfl, _, (fun v' h => by cases h; rfl), ha, hW⟩)⟩
        · -- 25
          intro D ρ w301 hcD hnD hdD hW
          have zhW := hW.size
          have E303 := E24.next hW (fun _ _ h => h.elim)
          refine ⟨[(1, .pointer (some ⟨b3, 0, none⟩)), (41, .bool true)], ⟨.inr ⟨rfl, rfl⟩, .inl ⟨24, some (.bool true), rfl, rfl, rfl⟩, trivial⟩, fun Lr => ?_⟩
          show WL _ _ _ _ _ _ _ ((1, .pointer (some ⟨b3, 0, none⟩)) :: (41, .bool true) :: Lr) _
          have B304 := ((((h3.keep u4 (show ¬ (T b3) by first | omega | assumption)).keep u19 (fun h => h)).keep u22 (show ¬ (b3 = bk16) by first | omega | assumption)).keep hW (fun h => h))
          refine t_load Try.isAgg124 rfl rfl rfl (B304.get rfl) ?_
          refine t_nil' ?_
          exact fun a ha => ⟨rfl, _, (fun v' h => by cases h; rfl), ha, hW⟩
        · exact fun D ρ w hcD hnD hdD hW => ⟨[(41, .bool true), (42, .pointer (some ⟨t, 0, none⟩))], ⟨.inl ⟨24, some (.bool true), rfl, rfl, rfl⟩, .inl ⟨25, some (.pointer (some ⟨t, 0, none⟩)), rfl, rfl, rfl⟩, trivial⟩, fun Lr => t_nilchk rfl rfl rfl (t_nil' fun a ha => ⟨rfl, _, (fun v' h => by cases h; rfl), ha, hW⟩)⟩
        · exact fun D ρ w hcD hnD hdD hW => ⟨[(41, .bool true), (43, .pointer (some ⟨t, 0, none⟩))], ⟨.inl ⟨24, some (.bool true), rfl, rfl, rfl⟩, .inl ⟨26, some (.pointer (some ⟨t, 0, none⟩)), rfl, rfl, rfl⟩, trivial⟩, fun Lr => t_field Try.underlying160 rfl Try.sizeOf158 (2) rfl rfl rfl rfl (t_nil' fun a ha => ⟨rfl, _, (fun v' h => by cases h; rfl), ha, hW⟩)⟩
        · -- 28
          intro D ρ w305 hcD hnD hdD hW
          have zhW := hW.size
          have E307 := E24.next hW (fun _ _ h => h.elim)
          refine ⟨[(41, .bool true), (44, .pointer (some ⟨t, 2, none⟩))], ⟨.inl ⟨24, some (.bool true), rfl, rfl, rfl⟩, .inl ⟨27, some (.pointer (some ⟨t, 2, none⟩)), rfl, rfl, rfl⟩, trivial⟩, fun Lr => ?_⟩
          show WL _ _ _ _ _ _ _ ((41, .bool true) :: (44, .pointer (some ⟨t, 2, none⟩)) :: Lr) _
          have B308 := ((((htb.keep u4 (show ¬ (T t) by first | omega | assumption)).keep u19 (fun h => h)).keep u22 (show ¬ (t = bk16) by first | omega | assumption)).keep hW (fun h => h))
          refine t_load Try.isAgg158 rfl rfl rfl (B308.get rfl) ?_
          refine t_nil' ?_
          exact fun a ha => ⟨rfl, _, (fun v' h => by cases h; rfl), ha, hW⟩
        · -- 29
          intro D ρ w309 hcD hnD hdD hW
          have zhW := hW.size
          have E311 := E24.next hW (fun _ _ h => h.elim)
          refine ⟨[(2, .pointer (some ⟨b4, 0, none⟩)), (41, .bool true)], ⟨.inr ⟨rfl, rfl⟩, .inl ⟨24, some (.bool true), rfl, rfl, rfl⟩, trivial⟩, fun Lr => ?_⟩
          show WL _ _ _ _ _ _ _ ((2, .pointer (some ⟨b4, 0, none⟩)) :: (41, .bool true) :: Lr) _
          have B312 := ((((h4.keep u4 (show ¬ (T b4) by first | omega | assumption)).keep u19 (fun h => h)).keep u22 (show ¬ (b4 = bk16) by first | omega | assumption)).keep hW (fun h => h))
          refine t_load Try.isAgg3 rfl rfl rfl (B312.get rfl) ?_
          refine t_nil' ?_
          exact fun a ha => ⟨rfl, _, (fun v' h => by cases h; rfl), ha, hW⟩
        · -- 30
          intro D ρ w313 hcD hnD hdD hW
          have zhW := hW.size
          have E315 := E24.next hW (fun _ _ h => h.elim)
          refine ⟨[(41, .bool true), (45, .slice ar rows.length cr), (46, .int .i64 (i : Int))], ⟨.inl ⟨24, some (.bool true), rfl, rfl, rfl⟩, .inl ⟨28, some (.slice ar rows.length cr), rfl, rfl, rfl⟩, .inl ⟨29, some (.int .i64 (i : Int)), rfl, rfl, rfl⟩, trivial⟩, fun Lr => ?_⟩
          show WL _ _ _ _ _ _ _ ((41, .bool true) :: (45, .slice ar rows.length cr) :: (46, .int .i64 (i : Int)) :: Lr) _
          have D316 := (((D14.keep u19 (fun _ _ h => h)).keep u22 (fun i hi => show ¬ (i = bk16) by omega)).keep hW (fun _ _ h => h))
          have i317 : i < rows.length := (by omega)
          refine t_index (j := i) Try.underlying158 Try.sizeOf157 rfl rfl rfl rfl (D316.ssl.addr (by omega)) rfl i317 ?_
          refine t_nil' ?_
          exact fun a ha => ⟨rfl, _, (fun v' h => by cases h; rfl), ha, hW⟩
        · -- 31
          intro D ρ w318 hcD hnD hdD hW
          have zhW := hW.size
          have E320 := E24.next hW (fun _ _ h => h.elim)
          refine ⟨[(41, .bool true), (47, .pointer (some ⟨br, 0 + i * 1, none⟩))], ⟨.inl ⟨24, some (.bool true), rfl, rfl, rfl⟩, .inl ⟨30, some (.pointer (some ⟨br, 0 + i * 1, none⟩)), rfl, rfl, rfl⟩, trivial⟩, fun Lr => ?_⟩
          show WL _ _ _ _ _ _ _ ((41, .bool true) :: (47, .pointer (some ⟨br, 0 + i * 1, none⟩)) :: Lr) _
          have D321 := (((D14.keep u19 (fun _ _ h => h)).keep u22 (fun i hi => show ¬ (i = bk16) by omega)).keep hW (fun _ _ h => h))
          refine t_load Try.isAgg157 rfl rfl rfl ((D321.ssl.at_ i (by omega)) 0 _ rfl) ?_
          refine t_nil' ?_
          exact fun a ha => ⟨rfl, _, (fun v' h => by cases h; rfl), ha, hW⟩
        · exact fun D ρ w hcD hnD hdD hW => ⟨[(5, .int .i64 (k : Int)), (41, .bool true)], ⟨.inr ⟨rfl, rfl⟩, .inl ⟨24, some (.bool true), rfl, rfl, rfl⟩, trivial⟩, fun Lr => t_move rfl rfl rfl (t_nil' fun a ha => ⟨rfl, _, (fun v' h => by cases h; rfl), ha, hW⟩)⟩
        · -- 33
          intro D ρ w322 hcD hnD hdD hW
          have zhW := hW.size
          have E324 := E24.next hW (fun _ _ h => h.elim)
          refine ⟨[(41, .bool true), (48, .slice ((nth rows i).ao) (((nth rows i).ss).length) ((nth rows i).cap)), (49, .int .i64 (k : Int))], ⟨.inl ⟨24, some (.bool true), rfl, rfl, rfl⟩, .inl ⟨31, some (.slice ((nth rows i).ao) (((nth rows i).ss).length) ((nth rows i).cap)), rfl, rfl, rfl⟩, .inl ⟨32, some (.int .i64 (k : Int)), rfl, rfl, rfl⟩, trivial⟩, fun Lr => ?_⟩
          show WL _ _ _ _ _ _ _ ((41, .bool true) :: (48, .slice ((nth rows i).ao) (((nth rows i).ss).length) ((nth rows i).cap)) :: (49, .int .i64 (k : Int)) :: Lr) _
          have D325 := (((D14.keep u19 (fun _ _ h => h)).keep u22 (fun i hi => show ¬ (i = bk16) by omega)).keep hW (fun _ _ h => h))
          have i326 : k < ((nth rows i).ss).length := (by omega)
          refine t_index (j := k) Try.underlying157 Try.sizeOf141 rfl rfl rfl rfl ((D325.rsl (nth rows i) (nth_mem (by omega))).addr (by omega)) rfl i326 ?_
          refine t_nil' ?_
          exact fun a ha => ⟨rfl, _, (fun v' h => by cases h; rfl), ha, hW⟩
        · exact fun D ρ w hcD hnD hdD hW => ⟨[(41, .bool true), (50, .pointer (some ⟨(nth rows i).g, 0 + k * 5, none⟩))], ⟨.inl ⟨24, some (.bool true), rfl, rfl, rfl⟩, .inl ⟨33, some (.pointer (some ⟨(nth rows i).g, 0 + k * 5, none⟩)), rfl, rfl, rfl⟩, trivial⟩, fun Lr => t_field Try.underlying141 rfl Try.sizeOf4 (0 + k * 5 + 4) rfl rfl rfl rfl (t_nil' fun a ha => ⟨rfl, _, (fun v' h => by cases h; rfl), ha, hW⟩)⟩
        · -- 35
          intro D ρ w327 hcD hnD hdD hW
          have zhW := hW.size
          have E329 := E24.next hW (fun _ _ h => h.elim)
          refine ⟨[(41, .bool true), (51, .pointer (some ⟨(nth rows i).g, 0 + k * 5 + 4, none⟩))], ⟨.inl ⟨24, some (.bool true), rfl, rfl, rfl⟩, .inl ⟨34, some (.pointer (some ⟨(nth rows i).g, 0 + k * 5 + 4, none⟩)), rfl, rfl, rfl⟩, trivial⟩, fun Lr => ?_⟩
          show WL _ _ _ _ _ _ _ ((41, .bool true) :: (51, .pointer (some ⟨(nth rows i).g, 0 + k * 5 + 4, none⟩)) :: Lr) _
          have D330 := (((D14.keep u19 (fun _ _ h => h)).keep u22 (fun i hi => show ¬ (i = bk16) by omega)).keep hW (fun _ _ h => h))
          refine t_load Try.isAgg4 rfl rfl rfl (((D330.rsl (nth rows i) (nth_mem (by omega))).at_ k (by omega)) 4 _ rfl) ?_
          refine t_nil' ?_
          exact fun a ha => ⟨rfl, _, (fun v' h => by cases h; rfl), ha, hW⟩
        · exact fun D ρ w hcD hnD hdD hW => ⟨[(41, .bool true), (52, .bool ((nth ((nth rows i).ss) k).there))], ⟨.inl ⟨24, some (.bool true), rfl, rfl, rfl⟩, .inl ⟨35, some (.bool ((nth ((nth rows i).ss) k).there)), rfl, rfl, rfl⟩, trivial⟩, fun Lr => t_pick_t rfl rfl rfl rfl (t_nil' fun a ha => ⟨rfl, _, (fun v' h => by cases h; rfl), ha, hW⟩)⟩
        · exact fun D ρ w hcD hnD hdD hW => ⟨[(53, .bool ((nth ((nth rows i).ss) k).there))], ⟨.inl ⟨36, some (.bool ((nth ((nth rows i).ss) k).there)), rfl, rfl, rfl⟩, trivial⟩, fun Lr => t_move rfl rfl rfl (t_samehd (v := .bool false) (by simp [g54]) (t_nil' fun a ha => ⟨rfl, _, (fun v' h => by cases h; rfl), ha, hW⟩))⟩
        · exact fun D ρ w hcD hnD hdD hW => ⟨[(1, .pointer (some ⟨b3, 0, none⟩)), (54, .bool false)], ⟨.inr ⟨rfl, rfl⟩, .inl ⟨37, some (.bool false), rfl, rfl, rfl⟩, trivial⟩, fun Lr => t_skip rfl rfl rfl (t_nil' fun a ha => ⟨rfl, _, (fun v' h => by cases h; rfl), ha, hW⟩)⟩
        · exact fun D ρ w hcD hnD hdD hW => ⟨[(54, .bool false), (55, undef)], ⟨.inl ⟨37, some (.bool false), rfl, rfl, rfl⟩, .inl ⟨38, some (undef), rfl, rfl, rfl⟩, trivial⟩, fun Lr => t_skip rfl rfl rfl (t_nil' fun a ha => ⟨rfl, _, (fun v' h => by cases h; rfl), ha, hW⟩)⟩
        · exact fun D ρ w hcD hnD hdD hW => ⟨[(54, .bool false), (56, undef)], ⟨.inl ⟨37, some (.bool false), rfl, rfl, rfl⟩, .inl ⟨39, some (undef), rfl, rfl, rfl⟩, trivial⟩, fun Lr => t_skip rfl rfl rfl (t_nil' fun a ha => ⟨rfl, _, (fun v' h => by cases h; rfl), ha, hW⟩)⟩
        · exact fun D ρ w hcD hnD hdD hW => ⟨[(54, .bool false), (57, undef)], ⟨.inl ⟨37, some (.bool false), rfl, rfl, rfl⟩, .inl ⟨40, some (undef), rfl, rfl, rfl⟩, trivial⟩, fun Lr => t_skip rfl rfl rfl (t_nil' fun a ha => ⟨rfl, _, (fun v' h => by cases h; rfl), ha, hW⟩)⟩
        · exact fun D ρ w hcD hnD hdD hW => ⟨[(3, .pointer (some ⟨b5, 0, none⟩)), (54, .bool false)], ⟨.inr ⟨rfl, rfl⟩, .inl ⟨37, some (.bool false), rfl, rfl, rfl⟩, trivial⟩, fun Lr => t_skip rfl rfl rfl (t_nil' fun a ha => ⟨rfl, _, (fun v' h => by cases h; rfl), ha, hW⟩)⟩
        · exact fun D ρ w hcD hnD hdD hW => ⟨[(54, .bool false), (58, undef), (59, undef)], ⟨.inl ⟨37, some (.bool false), rfl, rfl, rfl⟩, .inl ⟨41, some (undef), rfl, rfl, rfl⟩, .inl ⟨42, some (undef), rfl, rfl, rfl⟩, trivial⟩, fun Lr => t_skip rfl rfl rfl (t_nil' fun a ha => ⟨rfl, _, (fun v' h => by cases h; rfl), ha, hW⟩)⟩
        · exact fun D ρ w hcD hnD hdD hW => ⟨[(54, .bool false), (60, undef)], ⟨.inl ⟨37, some (.bool false), rfl, rfl, rfl⟩, .inl ⟨43, some (undef), rfl, rfl, rfl⟩, trivial⟩, fun Lr => t_skip rfl rfl rfl (t_nil' fun a ha => ⟨rfl, _, (fun v' h => by cases h; rfl), ha, hW⟩)⟩
        · exact fun D ρ w hcD hnD hdD hW => ⟨[(5, .int .i64 (k : Int)), (54, .bool false)], ⟨.inr ⟨rfl, rfl⟩, .inl ⟨37, some (.bool false), rfl, rfl, rfl⟩, trivial⟩, fun Lr => t_skip rfl rfl rfl (t_nil' fun a ha => ⟨rfl, _, (fun v' h => by cases h; rfl), ha, hW⟩)⟩
        · exact fun D ρ w hcD hnD hdD hW => ⟨[(54, .bool false), (61, undef), (62, undef)], ⟨.inl ⟨37, some (.bool false), rfl, rfl, rfl⟩, .inl ⟨44, some (undef), rfl, rfl, rfl⟩, .inl ⟨45, some (undef), rfl, rfl, rfl⟩, trivial⟩, fun Lr => t_skip rfl rfl rfl (t_nil' fun a ha => ⟨rfl, _, (fun v' h => by cases h; rfl), ha, hW⟩)⟩
        · exact fun D ρ w hcD hnD hdD hW => ⟨[(54, .bool false), (63, undef)], ⟨.inl ⟨37, some (.bool false), rfl, rfl, rfl⟩, .inl ⟨46, some (undef), rfl, rfl, rfl⟩, trivial⟩, fun Lr => t_skip rfl rfl rfl (t_nil' fun a ha => ⟨rfl, _, (fun v' h => by cases h; rfl), ha, hW⟩)⟩
        · exact fun D ρ w hcD hnD hdD hW => ⟨[(54, .bool false), (64, undef)], ⟨.inl ⟨37, some (.bool false), rfl, rfl, rfl⟩, .inl ⟨47, some (undef), rfl, rfl, rfl⟩, trivial⟩, fun Lr => t_skip rfl rfl rfl (t_nil' fun a ha => ⟨rfl, _, (fun v' h => by cases h; rfl), ha, hW⟩)⟩
        · exact fun D ρ w hcD hnD hdD hW => ⟨[(54, .bool false), (65, undef)], ⟨.inl ⟨37, some (.bool false), rfl, rfl, rfl⟩, .inl ⟨48, some (undef), rfl, rfl, rfl⟩, trivial⟩, fun Lr => t_pick_f rfl rfl rfl rfl (t_nil' fun a ha => ⟨rfl, _, (fun v' h => by cases h; rfl), ha, hW⟩)⟩
        · exact fun D ρ w hcD hnD hdD hW => ⟨[(66, .bool false)], ⟨.inl ⟨49, some (.bool false), rfl, rfl, rfl⟩, trivial⟩, fun Lr => t_move rfl rfl rfl (t_nil' fun a ha => ⟨rfl, _, (fun v' h => by cases h; rfl), ha, hW⟩)⟩
        · exact fun D ρ w hcD hnD hdD hW => ⟨[(0, .func (.yield l) #[] #[]), (67, .bool false)], ⟨.inr ⟨rfl, rfl⟩, .inl ⟨50, some (.bool false), rfl, rfl, rfl⟩, trivial⟩, fun Lr => t_skip rfl rfl rfl (t_nil' fun a ha => ⟨rfl, _, (fun v' h => by cases h; rfl), ha, hW⟩)⟩
        · exact fun D ρ w hcD hnD hdD hW => ⟨[(5, .int .i64 (k : Int)), (67, .bool false)], ⟨.inr ⟨rfl, rfl⟩, .inl ⟨50, some (.bool false), rfl, rfl, rfl⟩, trivial⟩, fun Lr => t_skip rfl rfl rfl (t_nil' fun a ha => ⟨rfl, _, (fun v' h => by cases h; rfl), ha, hW⟩)⟩
        · exact fun D ρ w hcD hnD hdD hW => ⟨[(67, .bool false), (68, undef), (69, undef)], ⟨.inl ⟨50, some (.bool false), rfl, rfl, rfl⟩, .inl ⟨51, some (undef), rfl, rfl, rfl⟩, .inl ⟨52, some (undef), rfl, rfl, rfl⟩, trivial⟩, fun Lr => t_skip rfl rfl rfl (t_nil' fun a ha => ⟨rfl, _, (fun v' h => by cases h; rfl), ha, hW⟩)⟩
        · exact fun D ρ w hcD hnD hdD hW => ⟨[(67, .bool false), (70, undef)], ⟨.inl ⟨50, some (.bool false), rfl, rfl, rfl⟩, .inl ⟨53, some (undef), rfl, rfl, rfl⟩, trivial⟩, fun Lr => t_skip rfl rfl rfl (t_nil' fun a ha => ⟨rfl, _, (fun v' h => by cases h; rfl), ha, hW⟩)⟩
        · exact fun D ρ w hcD hnD hdD hW => ⟨[(67, .bool false), (71, undef)], ⟨.inl ⟨50, some (.bool false), rfl, rfl, rfl⟩, .inl ⟨54, some (undef), rfl, rfl, rfl⟩, trivial⟩, fun Lr => t_pick_f rfl rfl rfl rfl (t_nil' fun a ha => ⟨rfl, _, (fun v' h => by cases h; rfl), ha, hW⟩)⟩
        intro ρ w331 hW
        have u332 : Upd (fun _ => False) w21 w331 := hW
        have zu332 := u332.size
        have E333 := E24.next u332 (fun _ _ h => h.elim)
        refine QK.weak [(0, .func (.yield l) #[] #[]), (1, .pointer (some ⟨b3, 0, none⟩)), (2, .pointer (some ⟨b4, 0, none⟩)), (3, .pointer (some ⟨b5, 0, none⟩)), (5, .int .i64 (k : Int)), (6, .pointer (some ⟨bk16, 0, none⟩)), (10, .slice an ns.length cn), (11, .int .i64 (ns.length : Int)), (12, .int .i64 (k : Int)), (13, .bool (decide ((k : Int) < (ns.length : Int)))), (14, .int .i64 (k : Int)), (15, .pointer (some ⟨bn, on + k * 4, none⟩)), (16, .agg #[.int .i64 ((nth ns k).frm), .int .i64 ((nth ns k).to), .int .i64 ((nth ns k).wid), .bool ((nth ns k).single)]), (17, .pointer (some ⟨bk16, 3, none⟩)), (18, .bool ((nth ns k).single)), (19, .bool true), (40, .bool true), (41, .bool true), (42, .pointer (some ⟨t, 0, none⟩)), (43, .pointer (some ⟨t, 0, none⟩)), (44, .pointer (some ⟨t, 2, none⟩)), (45, .slice ar rows.length cr), (46, .int .i64 (i : Int)), (47, .pointer (some ⟨br, 0 + i * 1, none⟩)), (48, .slice ((nth rows i).ao) (((nth rows i).ss).length) ((nth rows i).cap)), (49, .int .i64 (k : Int)), (50, .pointer (some ⟨(nth rows i).g, 0 + k * 5, none⟩)), (51, .pointer (some ⟨(nth rows i).g, 0 + k * 5 + 4, none⟩)), (52, .bool ((nth ((nth rows i).ss) k).there)), (53, .bool ((nth ((nth rows i).ss) k).there)), (54, .bool false), (66, .bool false), (67, .bool false), (72, .bool false)] ⟨rfl, rfl, rfl, rfl, rfl, rfl, rfl, rfl, rfl, rfl, rfl, rfl, rfl, rfl, rfl, rfl, rfl, rfl, rfl, rfl, rfl, rfl, rfl, rfl, rfl, rfl, rfl, rfl, rfl, rfl, rfl, rfl, rfl, rfl, trivial⟩ ?_
        refine hK25 _ _ ?_
        refine c_cond_f rfl ?_
        refine c_skip ?_
        refine hK12 _ _ ?_
        refine c_region ?_
        refine t_ari rfl rfl rfl rfl rfl (by omega) ?_
        refine t_move rfl rfl rfl ?_
        refine t_nil' ?_
        exact hK2 (k + 1, pre) _ _ (by show ns.length - (k + 1) < ns.length - k; omega) ⟨rfl, rfl, rfl, rfl, rfl, rfl, rfl, trivial⟩ ⟨(((u4.next u19 (fun _ _ h => h.elim)).next u22 (fun i hi (h : i = bk16) => show T i by first | omega | assumption)).next u332 (fun _ _ h => h.elim)), (by omega), (by rw [filter_succ, if_neg (by simp [barB, g54])]; simpa using hpre), (by show pre.length ≤ (k + 1); omega), (hJ _ _ _ none hJk (Ext.grownBy ((((Upd.refl (fun _ => False) _).next u19 (fun _ _ h => h.elim)).next u22 (fun i hi (h : i = bk16) => show False by first | omega | assumption)).next u332 (fun _ _ h => h.elim))) (fun r e => by cases e))⟩
    ·
      by_cases g41 : (nth ns k).wid < ((nth vs i).v.wid + ((nth vs j).v.wid))
      ·
        rcases Bool.eq_false_or_eq_true ((nth ((nth rows i).ss) k).there) with g54 | g54
        ·
          rcases Bool.eq_false_or_eq_true ((nth ((nth rows j).ss) k).there) with g67 | g67
          ·
            refine WC.weak [(0, .func (.yield l) #[] #[]), (1, .pointer (some ⟨b3, 0, none⟩)), (2, .pointer (some ⟨b4, 0, none⟩)), (3, .pointer (some ⟨b5, 0, none⟩)), (5, .int .i64 (k : Int)), (6, .pointer (some ⟨bk16, 0, none⟩)), (10, .slice an ns.length cn), (11, .int .i64 (ns.length : Int)), (12, .int .i64 (k : Int)), (13, .bool (decide ((k : Int) < (ns.length : Int)))), (14, .int .i64 (k : Int)), (15, .pointer (some ⟨bn, on + k * 4, none⟩)), (16, .agg #[.int .i64 ((nth ns k).frm), .int .i64 ((nth ns k).to), .int .i64 ((nth ns k).wid), .bool ((nth ns k).single)])] ⟨rfl, rfl, rfl, rfl, rfl, rfl, rfl, rfl, rfl, rfl, rfl, rfl, rfl, trivial⟩ ?_
            refine c_drawn followsS' 56 [some (17, some (.pointer (some ⟨bk16, 3, none⟩))), some (18, some (.bool ((nth ns k).single))), some (19, some (.bool false)), some (20, some (.pointer (some ⟨t, 0, none⟩))), some (21, some (.pointer (some ⟨t, 0, none⟩))), some (22, some (.pointer (some ⟨t, 0, none⟩))), some (23, some (.slice av vs.length cv)), some (24, some (.int .i64 (i : Int))), some (25, some (.pointer (some ⟨bv, ov + i * 5, none⟩))), some (26, some (.pointer (some ⟨bv, ov + i * 5 + 4, none⟩))), some (27, some (.int .i64 ((nth vs i).v.wid))), some (28, some (.pointer (some ⟨t, 0, none⟩))), some (29, some (.pointer (some ⟨t, 0, none⟩))), some (30, some (.pointer (some ⟨t, 0, none⟩))), some (31, some (.slice av vs.length cv)), some (32, some (.int .i64 (j : Int))), some (33, some (.pointer (some ⟨bv, ov + j * 5, none⟩))), some (34, some (.pointer (some ⟨bv, ov + j * 5 + 4, none⟩))), some (35, some (.int .i64 ((nth vs j).v.wid))), some (36, some (.int .i64 ((nth vs i).v.wid + ((nth vs j).v.wid)))), some (37, some (.pointer (some ⟨bk16, 2, none⟩))), some (38, some (.int .i64 ((nth ns k).wid))), some (39, some (.bool (decide ((nth ns k).wid < ((nth vs i).v.wid + ((nth vs j).v.wid)))))), some (40, some (.bool (decide ((nth ns k).wid < ((nth vs i).v.wid + ((nth vs j).v.wid)))))), some (41, some (.bool true)), some (42, some (.pointer (some ⟨t, 0, none⟩))), some (43, some (.pointer (some ⟨t, 0, none⟩))), some (44, some (.pointer (some ⟨t, 2, none⟩))), some (45, some (.slice ar rows.length cr)), some (46, some (.int .i64 (i : Int))), some (47, some (.pointer (some ⟨br, 0 + i * 1, none⟩))), some (48, some (.slice ((nth rows i).ao) (((nth rows i).ss).length) ((nth rows i).cap))), some (49, some (.int .i64 (k : Int))), some (50, some (.pointer (some ⟨(nth rows i).g, 0 + k * 5, none⟩))), some (51, some (.pointer (some ⟨(nth rows i).g, 0 + k * 5 + 4, none⟩))), some (52, some (.bool ((nth ((nth rows i).ss) k).there))), some (53, some (.bool ((nth ((nth rows i).ss) k).there))), some (54, some (.bool true)), some (55, some (.pointer (some ⟨t, 0, none⟩))), some (56, some (.pointer (some ⟨t, 0, none⟩))), some (57, some (.pointer (some ⟨t, 2, none⟩))), some (58, some (.slice ar rows.length cr)), some (59, some (.int .i64 (j : Int))), some (60, some (.pointer (some ⟨br, 0 + j * 1, none⟩))), some (61, some (.slice ((nth rows j).ao) (((nth rows j).ss).length) ((nth rows j).cap))), some (62, some (.int .i64 (k : Int))), some (63, some (.pointer (some ⟨(nth rows j).g, 0 + k * 5, none⟩))), some (64, some (.pointer (some ⟨(nth rows j).g, 0 + k * 5 + 4, none⟩))), some (65, some (.bool ((nth ((nth rows j).ss) k).there))), some (66, some (.bool ((nth ((nth rows j).ss) k).there))), some (67, some (.bool true)), some (68, some (.func (.yield l) #[] #[])), some (69, some (.int .i64 (k : Int))), some (70, none), some (71, none), some (72, none)] [[], [0], [1], [2], [3, 2], [4, 2], [5, 2], [2], [6, 7, 2], [8, 2], [9, 2], [2], [11, 2], [12, 2], [13, 2], [2], [14, 15, 2], [16, 2], [17, 2], [10, 18, 2], [2], [20, 2], [19, 21, 2], [2, 22], [23, 2], [24], [25, 24], [26, 24], [27, 24], [24], [28, 29, 24], [30, 24], [24], [31, 32, 24], [33, 24], [34, 24], [24, 35], [36, 24], [37], [38, 37], [39, 37], [40, 37], [37], [41, 42, 37], [43, 37], [37], [44, 45, 37], [46, 37], [47, 37], [37, 48], [49, 37], [50], [50], [51, 52, 50, 50], [53, 50], [50, 54]] (fun D ρ w => (D 53 = false → Upd (fun _ => False) w21 w) ∧ (D 53 = true → ∃ yb, ρ 53 = .bool yb ∧ ((yb = true → J (pre ++ [⟨k, hkn⟩]) w ∧ Upd T w21 w) ∧ (yb = false → Jx (pre ++ [⟨k, hkn⟩]) w))) ∧ (D 54 = true → ∃ yb, ρ 53 = .bool yb ∧ ρ 54 = .bool (!yb)) ∧ (D 55 = true → ∃ yb, ρ 53 = .bool yb ∧ ρ 55 = .bool (!yb))) rfl rfl rfl (by kernel_rfl) (by kernel_rfl) ⟨(fun _ => (Upd.drew _).to), (fun h => by cases h), (fun h => by cases h), (fun h => by cases h)⟩ ⟨?_, ?_, ?_, ?_, ?_, ?_, ?_, ?_, ?_, ?_, ?_, ?_, ?_, ?_, ?_, ?_, ?_, ?_, ?_, ?_, ?_, ?_, ?_, ?_, ?_, ?_, ?_, ?_, ?_, ?_, ?_, ?_, ?_, ?_, ?_, ?_, ?_, ?_, ?_, ?_, ?_, ?_, ?_, ?_, ?_, ?_, ?_, ?_, ?_, ?_, ?_, ?_, ?_, ?_, ?_, ?_, trivial⟩ ?_
            · exact fun D ρ w hcD hnD hdD hW => ⟨[(6, .pointer (some ⟨bk16, 0, none⟩))], ⟨.inr ⟨rfl, rfl⟩, trivial⟩, fun Lr => t_field Try.underlying72 rfl Try.sizeOf4 (3) rfl rfl rfl rfl (t_nil' fun a ha => ⟨rfl, _, (fun v' h => by cases h; rfl), ha, hW⟩)⟩
            · -- 1
              intro D ρ w375 hcD hnD hdD hW
              obtain ⟨u376, F377, F378, F379⟩ := hW
              have u380 := u376 (hcD.late 53 (hcD.late 50 (hcD.late 37 (hcD.late 24 (hcD.late 2 hnD rfl) rfl) rfl) rfl) rfl)
              have zu380 := u380.size
              have E381 := E24.next u380 (fun _ _ h => h.elim)
              refine ⟨[(17, .pointer (some ⟨bk16, 3, none⟩))], ⟨.inl ⟨0, some (.pointer (some ⟨bk16, 3, none⟩)), rfl, rfl, rfl⟩, trivial⟩, fun Lr => ?_⟩
              show WL _ _ _ _ _ _ _ ((17, .pointer (some ⟨bk16, 3, none⟩)) :: Lr) _
              have B382 := (B23.keep u380 (fun h => h))
              refine t_load Try.isAgg4 rfl rfl rfl (B382.get rfl) ?_
              refine t_nil' ?_
              exact fun a ha => ⟨rfl, _, (fun v' h => by cases h; rfl), ha, ⟨u376, F377, F378, F379⟩⟩
            · exact fun D ρ w hcD hnD hdD hW => ⟨[(18, .bool ((nth ns k).single))], ⟨.inl ⟨1, some (.bool ((nth ns k).single)), rfl, rfl, rfl⟩, trivial⟩, fun Lr => t_move rfl rfl rfl (t_samehd (v := .bool false) (by simp [g19]) (t_nil' fun a ha => ⟨rfl, _, (fun v' h => by cases h; rfl), ha, hW⟩))⟩
            · -- 3
              intro D ρ w383 hcD hnD hdD hW
              obtain ⟨u384, F385, F386, F387⟩ := hW
              have u388 := u384 (hcD.late 53 (hcD.late 50 (hcD.late 37 (hcD.late 24 (hcD.late 23 (hcD.late 22 (hcD.late 19 (hcD.late 10 (hcD.late 9 (hcD.late 8 (hcD.late 6 (hcD.late 5 (hcD.late 4 hnD rfl) rfl) rfl) rfl) rfl) rfl) rfl) rfl) rfl) rfl) rfl) rfl) rfl)
              have zu388 := u388.size
              have E389 := E24.next u388 (fun _ _ h => h.elim)
              refine ⟨[(1, .pointer (some ⟨b3, 0, none⟩)), (19, .bool false)], ⟨.inr ⟨rfl, rfl⟩, .inl ⟨2, some (.bool false), rfl, rfl, rfl⟩, trivial⟩, fun Lr => ?_⟩
              show WL _ _ _ _ _ _ _ ((1, .pointer (some ⟨b3, 0, none⟩)) :: (19, .bool false) :: Lr) _
              have B390 := ((((h3.keep u4 (show ¬ (T b3) by first | omega | assumption)).keep u19 (fun h => h)).keep u22 (show ¬ (b3 = bk16) by first | omega | assumption)).keep u388 (fun h => h))
              refine t_load Try.isAgg124 rfl rfl rfl (B390.get rfl) ?_
              refine t_nil' ?_
              exact fun a ha => ⟨rfl, _, (fun v' h => by cases h; rfl), ha, ⟨u384, F385, F386, F387⟩⟩
            · exact fun D ρ w hcD hnD hdD hW => ⟨[(19, .bool false), (20, .pointer (some ⟨t, 0, none⟩))], ⟨.inl ⟨2, some (.bool false), rfl, rfl, rfl⟩, .inl ⟨3, some (.pointer (some ⟨t, 0, none⟩)), rfl, rfl, rfl⟩, trivial⟩, fun Lr => t_nilchk rfl rfl rfl (t_nil' fun a ha => ⟨rfl, _, (fun v' h => by cases h; rfl), ha, hW⟩)⟩
            · exact fun D ρ w hcD hnD hdD hW => ⟨[(19, .bool false), (21, .pointer (some ⟨t, 0, none⟩))], ⟨.inl ⟨2, some (.bool false), rfl, rfl, rfl⟩, .inl ⟨4, some (.pointer (some ⟨t, 0, none⟩)), rfl, rfl, rfl⟩, trivial⟩, fun Lr => t_field Try.underlying160 rfl Try.sizeOf34 (0) rfl rfl rfl rfl (t_nil' fun a ha => ⟨rfl, _, (fun v' h => by cases h; rfl), ha, hW⟩)⟩
            · -- 6
              intro D ρ w391 hcD hnD hdD hW
              obtain ⟨u392, F393, F394, F395⟩ := hW
              have u396 := u392 (hcD.late 53 (hcD.late 50 (hcD.late 37 (hcD.late 24 (hcD.late 23 (hcD.late 22 (hcD.late 19 (hcD.late 10 (hcD.late 9 (hcD.late 8 hnD rfl) rfl) rfl) rfl) rfl) rfl) rfl) rfl) rfl) rfl)
              have zu396 := u396.size
              have E397 := E24.next u396 (fun _ _ h => h.elim)
              refine ⟨[(19, .bool false), (22, .pointer (some ⟨t, 0, none⟩))], ⟨.inl ⟨2, some (.bool false), rfl, rfl, rfl⟩, .inl ⟨5, some (.pointer (some ⟨t, 0, none⟩)), rfl, rfl, rfl⟩, trivial⟩, fun Lr => ?_⟩
              show WL _ _ _ _ _ _ _ ((19, .bool false) :: (22, .pointer (some ⟨t, 0, none⟩)) :: Lr) _
              have B398 := ((((htb.keep u4 (show ¬ (T t) by first | omega | assumption)).keep u19 (fun h => h)).keep u22 (show ¬ (t = bk16) by first | omega | assumption)).keep u396 (fun h => h))
              refine t_load Try.isAgg34 rfl rfl rfl (B398.get rfl) ?_
              refine t_nil' ?_
              exact fun a ha => ⟨rfl, _, (fun v' h => by cases h; rfl), ha, ⟨u392, F393, F394, F395⟩⟩
            · -- 7
              intro D ρ w399 hcD hnD hdD hW
              obtain ⟨u400, F401, F402, F403⟩ := hW
              have u404 := u400 (hcD.late 53 (hcD.late 50 (hcD.late 37 (hcD.late 24 (hcD.late 23 (hcD.late 22 (hcD.late 19 (hcD.late 10 (hcD.late 9 (hcD.late 8 hnD rfl) rfl) rfl) rfl) rfl) rfl) rfl) rfl) rfl) rfl)
              have zu404 := u404.size
              have E405 := E24.next u404 (fun _ _ h => h.elim)
              refine ⟨[(2, .pointer (some ⟨b4, 0, none⟩)), (19, .bool false)], ⟨.inr ⟨rfl, rfl⟩, .inl ⟨2, some (.bool false), rfl, rfl, rfl⟩, trivial⟩, fun Lr => ?_⟩
              show WL _ _ _ _ _ _ _ ((2, .pointer (some ⟨b4, 0, none⟩)) :: (19, .bool false) :: Lr) _
              have B406 := ((((h4.keep u4 (show ¬ (T b4) by first | omega | assumption)).keep u19 (fun h => h)).keep u22 (show ¬ (b4 = bk16) by first | omega | assumption)).keep u404 (fun h => h))
              refine t_load Try.isAgg3 rfl rfl rfl (B406.get rfl) ?_
              refine t_nil' ?_
              exact fun a ha => ⟨rfl, _, (fun v' h => by cases h; rfl), ha, ⟨u400, F401, F402, F403⟩⟩
            · -- 8
              intro D ρ w407 hcD hnD hdD hW
              obtain ⟨u408, F409, F410, F411⟩ := hW
              have u412 := u408 (hcD.late 53 (hcD.late 50 (hcD.late 37 (hcD.late 24 (hcD.late 23 (hcD.late 22 (hcD.late 19 (hcD.late 10 (hcD.late 9 hnD rfl) rfl) rfl) rfl) rfl) rfl) rfl) rfl) rfl)
              have zu412 := u412.size
              have E413 := E24.next u412 (fun _ _ h => h.elim)
              refine ⟨[(19, .bool false), (23, .slice av vs.length cv), (24, .int .i64 (i : Int))], ⟨.inl ⟨2, some (.bool false), rfl, rfl, rfl⟩, .inl ⟨6, some (.slice av vs.length cv), rfl, rfl, rfl⟩, .inl ⟨7, some (.int .i64 (i : Int)), rfl, rfl, rfl⟩, trivial⟩, fun Lr => ?_⟩
              show WL _ _ _ _ _ _ _ ((19, .bool false) :: (23, .slice av vs.length cv) :: (24, .int .i64 (i : Int)) :: Lr) _
              have D414 := (((D14.keep u19 (fun _ _ h => h)).keep u22 (fun i hi => show ¬ (i = bk16) by omega)).keep u412 (fun _ _ h => h))
              have i415 : i < vs.length := (by omega)
              refine t_index (j := i) Try.underlying34 Try.sizeOf48 rfl rfl rfl rfl (D414.vsl.addr (by omega)) rfl i415 ?_
              refine t_nil' ?_
              exact fun a ha => ⟨rfl, _, (fun v' h => by cases h; rfl), ha, ⟨u408, F409, F410, F411⟩⟩
            · exact fun D ρ w hcD hnD hdD hW => ⟨[(19, .bool false), (25, .pointer (some ⟨bv, ov + i * 5, none⟩))], ⟨.inl ⟨2, some (.bool false), rfl, rfl, rfl⟩, .inl ⟨8, some (.pointer (some ⟨bv, ov + i * 5, none⟩)), rfl, rfl, rfl⟩, trivial⟩, fun Lr => t_field Try.underlying48 rfl Try.sizeOf3 (ov + i * 5 + 4) rfl rfl rfl rfl (t_nil' fun a ha => ⟨rfl, _, (fun v' h => by cases h; rfl), ha, hW⟩)⟩
            · -- 10
              intro D ρ w416 hcD hnD hdD hW
              obtain ⟨u417, F418, F419, F420⟩ := hW
              have u421 := u417 (hcD.late 53 (hcD.late 50 (hcD.late 37 (hcD.late 24 (hcD.late 23 (hcD.late 22 (hcD.late 19 hnD rfl) rfl) rfl) rfl) rfl) rfl) rfl)
              have zu421 := u421.size
              have E422 := E24.next u421 (fun _ _ h => h.elim)
              refine ⟨[(19, .bool false), (26, .pointer (some ⟨bv, ov + i * 5 + 4, none⟩))], ⟨.inl ⟨2, some (.bool false), rfl, rfl, rfl⟩, .inl ⟨9, some (.pointer (some ⟨bv, ov + i * 5 + 4, none⟩)), rfl, rfl, rfl⟩, trivial⟩, fun Lr => ?_⟩
              show WL _ _ _ _ _ _ _ ((19, .bool false) :: (26, .pointer (some ⟨bv, ov + i * 5 + 4, none⟩)) :: Lr) _
              have D423 := (((D14.keep u19 (fun _ _ h => h)).keep u22 (fun i hi => show ¬ (i = bk16) by omega)).keep u421 (fun _ _ h => h))
              refine t_load Try.isAgg3 rfl rfl rfl ((D423.vsl.at_ i (by omega)) 4 _ rfl) ?_
              refine t_nil' ?_
              exact fun a ha => ⟨rfl, _, (fun v' h => by cases h; rfl), ha, ⟨u417, F418, F419, F420⟩⟩
            · -- 11
              intro D ρ w424 hcD hnD hdD hW
              obtain ⟨u425, F426, F427, F428⟩ := hW
              have u429 := u425 (hcD.late 53 (hcD.late 50 (hcD.late 37 (hcD.late 24 (hcD.late 23 (hcD.late 22 (hcD.late 19 (hcD.late 18 (hcD.late 17 (hcD.late 16 (hcD.late 14 (hcD.late 13 (hcD.late 12 hnD rfl) rfl) rfl) rfl) rfl) rfl) rfl) rfl) rfl) rfl) rfl) rfl) rfl)
              have zu429 := u429.size
              have E430 := E24.next u429 (fun _ _ h => h.elim)
              refine ⟨[(1, .pointer (some ⟨b3, 0, none⟩)), (19, .bool false)], ⟨.inr ⟨rfl, rfl⟩, .inl ⟨2, some (.bool false), rfl, rfl, rfl⟩, trivial⟩, fun Lr => ?_⟩
              show WL _ _ _ _ _ _ _ ((1, .pointer (some ⟨b3, 0, none⟩)) :: (19, .bool false) :: Lr) _
              have B431 := ((((h3.keep u4 (show ¬ (T b3) by first | omega | assumption)).keep u19 (fun h => h)).keep u22 (show ¬ (b3 = bk16) by first | omega | assumption)).keep u429 (fun h => h))
              refine t_load Try.isAgg124 rfl rfl rfl (B431.get rfl) ?_
              refine t_nil' ?_
              exact fun a ha => ⟨rfl, _, (fun v' h => by cases h; rfl), ha, ⟨u425, F426, F427, F428⟩⟩
            · exact fun D ρ w hcD hnD hdD hW => ⟨[(19, .bool false), (28, .pointer (some ⟨t, 0, none⟩))], ⟨.inl ⟨2, some (.bool false), rfl, rfl, rfl⟩, .inl ⟨11, some (.pointer (some ⟨t, 0, none⟩)), rfl, rfl, rfl⟩, trivial⟩, fun Lr => t_nilchk rfl rfl rfl (t_nil' fun a ha => ⟨rfl, _, (fun v' h => by cases h; rfl), ha, hW⟩)⟩
            · exact fun D ρ w hcD hnD hdD hW => ⟨[(19, .bool false), (29, .pointer (some ⟨t, 0, none⟩))], ⟨.inl ⟨2, some (.bool false), rfl, rfl, rfl⟩, .inl ⟨12, some (.pointer (some ⟨t, 0, none⟩)), rfl, rfl, rfl⟩, trivial⟩, fun Lr => t_field Try.underlying160 rfl Try.sizeOf34 (0) rfl rfl rfl rfl (t_nil' fun a ha => ⟨rfl, _, (fun v' h => by cases h; rfl), ha, hW⟩)⟩
            · -- 14
              intro D ρ w432 hcD hnD hdD hW
              obtain ⟨u433, F434, F435, F436⟩ := hW
              have u437 := u433 (hcD.late 53 (hcD.late 50 (hcD.late 37 (hcD.late 24 (hcD.late 23 (hcD.late 22 (hcD.late 19 (hcD.late 18 (hcD.late 17 (hcD.late 16 hnD rfl) rfl) rfl) rfl) rfl) rfl) rfl) rfl) rfl) rfl)
              have zu437 := u437.size
              have E438 := E24.next u437 (fun _ _ h => h.elim)
              refine ⟨[(19, .bool false), (30, .pointer (some ⟨t, 0, none⟩))], ⟨.inl ⟨2, some (.bool false), rfl, rfl, rfl⟩, .inl ⟨13, some (.pointer (some ⟨t, 0, none⟩)), rfl, rfl, rfl⟩, trivial⟩, fun Lr => ?_⟩
              show WL _ _ _ _ _ _ _ ((19, .bool false) :: (30, .pointer (some ⟨t, 0, none⟩)) :: Lr) _
              have B439 := ((((htb.keep u4 (show ¬ (T t) by first | omega | assumption)).keep u19 (fun h => h)).keep u22 (show ¬ (t = bk16) by first | omega | assumption)).keep u437 (fun h => h))
              refine t_load Try.isAgg34 rfl rfl rfl (B439.get rfl) ?_
              refine t_nil' ?_
              exact fun a ha => ⟨rfl, _, (fun v' h => by cases h; rfl), ha, ⟨u433, F434, F435, F436⟩⟩
            · -- 15
              intro D ρ w440 hcD hnD hdD hW
              obtain ⟨u441, F442, F443, F444⟩ := hW
              have u445 := u441 (hcD.late 53 (hcD.late 50 (hcD.late 37 (hcD.late 24 (hcD.late 23 (hcD.late 22 (hcD.late 19 (hcD.late 18 (hcD.late 17 (hcD.late 16 hnD rfl) rfl) rfl) rfl) rfl) rfl) rfl) rfl) rfl) rfl)
              have zu445 := u445.size
              have E446 := E24.next u445 (fun _ _ h => h.elim)
              refine ⟨[(3, .pointer (some ⟨b5, 0, none⟩)), (19, .bool false)], ⟨.inr ⟨rfl, rfl⟩, .inl ⟨2, some (.bool false), rfl, rfl, rfl⟩, trivial⟩, fun Lr => ?_⟩
              show WL _ _ _ _ _ _ _ ((3, .pointer (some ⟨b5, 0, none⟩)) :: (19, .bool false) :: Lr) _
              have B447 := ((((h5.keep u4 (show ¬ (T b5) by first | omega | assumption)).keep u19 (fun h => h)).keep u22 (show ¬ (b5 = bk16) by first | omega | assumption)).keep u445 (fun h => h))
              refine t_load Try.isAgg3 rfl rfl rfl (B447.get rfl) ?_
              refine t_nil' ?_
              exact fun a ha => ⟨rfl, _, (fun v' h => by cases h; rfl), ha, ⟨u441, F442, F443, F444⟩⟩
            · -- 16
              intro D ρ w448 hcD hnD hdD hW
              obtain ⟨u449, F450, F451, F452⟩ := hW
              have u453 := u449 (hcD.late 53 (hcD.late 50 (hcD.late 37 (hcD.late 24 (hcD.late 23 (hcD.late 22 (hcD.late 19 (hcD.late 18 (hcD.late 17 hnD rfl) rfl) rfl) rfl) rfl) rfl) rfl) rfl) rfl)
              have zu453 := u453.size
              have E454 := E24.next u453 (fun _ _ h => h.elim)
              refine ⟨[(19, .bool false), (31, .slice av vs.length cv), (32, .int .i64 (j : Int))], ⟨.inl ⟨2, some (.bool false), rfl, rfl, rfl⟩, .inl ⟨14, some (.slice av vs.length cv), rfl, rfl, rfl⟩, .inl ⟨15, some (.int .i64 (j : Int)), rfl, rfl, rfl⟩, trivial⟩, fun Lr => ?_⟩
              show WL _ _ _ _ _ _ _ ((19, .bool false) :: (31, .slice av vs.length cv) :: (32, .int .i64 (j : Int)) :: Lr) _
              have D455 := (((D14.keep u19 (fun _ _ h => h)).keep u22 (fun i hi => show ¬ (i = bk16) by omega)).keep u453 (fun _ _ h => h))
              have i456 : j < vs.length := (by omega)
              refine t_index (j := j) Try.underlying34 Try.sizeOf48 rfl rfl rfl rfl (D455.vsl.addr (by omega)) rfl i456 ?_
              refine t_nil' ?_
              exact fun a ha => ⟨rfl, _, (fun v' h => by cases h; rfl), ha, ⟨u449, F450, F451, F452⟩⟩
            · exact fun D ρ w hcD hnD hdD hW => ⟨[(19, .bool false), (33, .pointer (some ⟨bv, ov + j * 5, none⟩))], ⟨.inl ⟨2, some (.bool false), rfl, rfl, rfl⟩, .inl ⟨16, some (.pointer (some ⟨bv, ov + j * 5, none⟩)), rfl, rfl, rfl⟩, trivial⟩, fun Lr => t_field Try.underlying48 rfl Try.sizeOf3 (ov + j * 5 + 4) rfl rfl rfl rfl (t_nil' fun a ha => ⟨rfl, _, (fun v' h => by cases h; rfl), ha, hW⟩)⟩
            · -- 18
              intro D ρ w457 hcD hnD hdD hW
              obtain ⟨u458, F459, F460, F461⟩ := hW
              have u462 := u458 (hcD.late 53 (hcD.late 50 (hcD.late 37 (hcD.late 24 (hcD.late 23 (hcD.late 22 (hcD.late 19 hnD rfl) rfl) rfl) rfl) rfl) rfl) rfl)
              have zu462 := u462.size
              have E463 := E24.next u462 (fun _ _ h => h.elim)
              refine ⟨[(19, .bool false), (34, .pointer (some ⟨bv, ov + j * 5 + 4, none⟩))], ⟨.inl ⟨2, some (.bool false), rfl, rfl, rfl⟩, .inl ⟨17, some (.pointer (some ⟨bv, ov + j * 5 + 4, none⟩)), rfl, rfl, rfl⟩, trivial⟩, fun Lr => ?_⟩
              show WL _ _ _ _ _ _ _ ((19, .bool false) :: (34, .pointer (some ⟨bv, ov + j * 5 + 4, none⟩)) :: Lr) _
              have D464 := (((D14.keep u19 (fun _ _ h => h)).keep u22 (fun i hi => show ¬ (i = bk16) by omega)).keep u462 (fun _ _ h => h))
              refine t_load Try.isAgg3 rfl rfl rfl ((D464.vsl.at_ j (by omega)) 4 _ rfl) ?_
              refine t_nil' ?_
              exact fun a ha => ⟨rfl, _, (fun v' h => by cases h; rfl), ha, ⟨u458, F459, F460, F461⟩⟩
            · -- 19
              intro D ρ w465 hcD hnD hdD hW
              obtain ⟨u466, F467, F468, F469⟩ := hW
              have u470 := u466 (hcD.late 53 (hcD.late 50 (hcD.late 37 (hcD.late 24 (hcD.late 23 (hcD.late 22 hnD rfl) rfl) rfl) rfl) rfl) rfl)
              have zu470 := u470.size
              have E471 := E24.next u470 (fun _ _ h => h.elim)
              refine ⟨[(19, .bool false), (27, .int .i64 ((nth vs i).v.wid)), (35, .int .i64 ((nth vs j).v.wid))], ⟨.inl ⟨2, some (.bool false), rfl, rfl, rfl⟩, .inl ⟨10, some (.int .i64 ((nth vs i).v.wid)), rfl, rfl, rfl⟩, .inl ⟨18, some (.int .i64 ((nth vs j).v.wid)), rfl, rfl, rfl⟩, trivial⟩, fun Lr => ?_⟩
              show WL _ _ _ _ _ _ _ ((19, .bool false) :: (27, .int .i64 ((nth vs i).v.wid)) :: (35, .int .i64 ((nth vs j).v.wid)) :: Lr) _
              refine t_ari rfl rfl rfl rfl rfl (by omega) ?_
              refine t_nil' ?_
              exact fun a ha => ⟨rfl, _, (fun v' h => by cases h; rfl), ha, ⟨u466, F467, F468, F469⟩⟩
            · exact fun D ρ w hcD hnD hdD hW => ⟨[(6, .pointer (some ⟨bk16, 0, none⟩)), (19, .bool false)], ⟨.inr ⟨rfl, rfl⟩, .inl ⟨2, some (.bool false), rfl, rfl, rfl⟩, trivial⟩, fun Lr => t_field Try.underlying72 rfl Try.sizeOf3 (2) rfl rfl rfl rfl (t_nil' fun a ha => ⟨rfl, _, (fun v' h => by cases h; rfl), ha, hW⟩)⟩
            · -- 21
              intro D ρ w472 hcD hnD hdD hW
              obtain ⟨u473, F474, F475, F476⟩ := hW
              have u477 := u473 (hcD.late 53 (hcD.late 50 (hcD.late 37 (hcD.late 24 (hcD.late 23 (hcD.late 22 hnD rfl) rfl) rfl) rfl) rfl) rfl)
              have zu477 := u477.size
              have E478 := E24.next u477 (fun _ _ h => h.elim)
              refine ⟨[(19, .bool false), (37, .pointer (some ⟨bk16, 2, none⟩))], ⟨.inl ⟨2, some (.bool false), rfl, rfl, rfl⟩, .inl ⟨20, some (.pointer (some ⟨bk16, 2, none⟩)), rfl, rfl, rfl⟩, trivial⟩, fun Lr => ?_⟩
              show WL _ _ _ _ _ _ _ ((19, .bool false) :: (37, .pointer (some ⟨bk16, 2, none⟩)) :: Lr) _
              have B479 := (B23.keep u477 (fun h => h))
              refine t_load Try.isAgg3 rfl rfl rfl (B479.get rfl) ?_
              refine t_nil' ?_
              exact fun a ha => ⟨rfl, _, (fun v' h => by cases h; rfl), ha, ⟨u473, F474, F475, F476⟩⟩
            · exact fun D ρ w hcD hnD hdD hW => ⟨[(19, .bool false), (36, .int .i64 ((nth vs i).v.wid + ((nth vs j).v.wid))), (38, .int .i64 ((nth ns k).wid))], ⟨.inl ⟨2, some (.bool false), rfl, rfl, rfl⟩, .inl ⟨19, some (.int .i64 ((nth vs i).v.wid + ((nth vs j).v.wid))), rfl, rfl, rfl⟩, .inl ⟨21, some (.int .i64 ((nth ns k).wid)), rfl, rfl, rfl⟩, trivial⟩, fun Lr => t_cmp rfl rfl rfl rfl rfl (t_nil' fun a ha => ⟨rfl, _, (fun v' h => by cases h; rfl), ha, hW⟩)⟩
            · exact fun D ρ w hcD hnD hdD hW => ⟨[(19, .bool false), (39, .bool (decide ((nth ns k).wid < ((nth vs i).v.wid + ((nth vs j).v.wid)))))], ⟨.inl ⟨2, some (.bool false), rfl, rfl, rfl⟩, .inl ⟨22, some (.bool (decide ((nth ns k).wid < ((nth vs i).v.wid + ((nth vs j).v.wid))))), rfl, rfl, rfl⟩, trivial⟩, fun Lr => t_pick_f rfl rfl rfl rfl (t_nil' fun a ha => ⟨rfl, _, (fun v' h => by cases h; rfl), ha, hW⟩)⟩
            · exact fun D ρ w hcD hnD hdD hW => ⟨[(40, .bool (decide ((nth ns k).wid < ((nth vs i).v.wid + ((nth vs j).v.wid)))))], ⟨.inl ⟨23, some (.bool (decide ((nth ns k).wid < ((nth vs i).v.wid + ((nth vs j).v.wid))))), rfl, rfl, rfl⟩, trivial⟩, fun Lr => t_move rfl rfl rfl (t_samehd (v := .bool true) (by simp [g41]) (t_nil' fun a ha => ⟨rfl, _, (fun v' h => by cases h; rfl), ha, hW⟩))⟩
            · -- 25
              intro D ρ w480 hcD hnD hdD hW
              obtain ⟨u481, F482, F483, F484⟩ := hW
              have u485 := u481 (hcD.late 53 (hcD.late 50 (hcD.late 37 (hcD.late 36 (hcD.late 35 (hcD.late 34 (hcD.late 33 (hcD.late 31 (hcD.late 30 (hcD.late 28 (hcD.late 27 (hcD.late 26 hnD rfl) rfl) rfl) rfl) rfl) rfl) rfl) rfl) rfl) rfl) rfl) rfl)
              have zu485 := u485.size
              have E486 := E24.next u485 (fun _ _ h => h.elim)
              refine ⟨[(1, .pointer (some ⟨b3, 0, none⟩)), (41, .bool true)], ⟨.inr ⟨rfl, rfl⟩, .inl ⟨24, some (.bool true), rfl, rfl, rfl⟩, trivial⟩, fun Lr => ?_⟩
              show WL _ _ _ _ _ _ _ ((1, .pointer (some ⟨b3, 0, none⟩)) :: (41, .bool true) :: Lr) _
              have B487 := ((((h3.keep u4 (show ¬ (T b3) by first | omega | assumption)).keep u19 (fun h => h)).keep u22 (show ¬ (b3 = bk16) by first | omega | assumption)).keep u485 (fun h => h))
              refine t_load Try.isAgg124 rfl rfl rfl (B487.get rfl) ?_
              refine t_nil' ?_
              exact fun a ha => ⟨rfl, _, (fun v' h => by cases h; rfl), ha, ⟨u481, F482, F483, F484⟩⟩
            · exact fun D ρ w hcD hnD hdD hW => ⟨[(41, .bool true), (42, .pointer (some ⟨t, 0, none⟩))], ⟨.inl ⟨24, some (.bool true), rfl, rfl, rfl⟩, .inl ⟨25, some (.pointer (some ⟨t, 0, none⟩)), rfl, rfl, rfl⟩, trivial⟩, fun Lr => t_nilchk rfl rfl rfl (t_nil' fun a ha => ⟨rfl, _, (fun v' h => by cases h; rfl), ha, hW⟩)⟩
            · exact fun D ρ w hcD hnD hdD hW => ⟨[(41, .bool true), (43, .pointer (some ⟨t, 0, none⟩))], ⟨.inl ⟨24, some (.bool true), rfl, rfl, rfl⟩, .inl ⟨26, some (.pointer (some ⟨t, 0, none⟩)), rfl, rfl, rfl⟩, trivial⟩, fun Lr => t_field Try.underlying160 rfl Try.sizeOf158 (2) rfl rfl rfl rfl (t_nil' fun a ha => ⟨rfl, _, (fun v' h => by cases h; rfl), ha, hW⟩)⟩
            · -- 28
              intro D ρ w488 hcD hnD hdD hW
              obtain ⟨u489, F490, F491, F492⟩ := hW
              have u493 := u489 (hcD.late 53 (hcD.late 50 (hcD.late 37 (hcD.late 36 (hcD.late 35 (hcD.late 34 (hcD.late 33 (hcD.late 31 (hcD.late 30 hnD rfl) rfl) rfl) rfl) rfl) rfl) rfl) rfl) rfl)
              have zu493 := u493.size
              have E494 := E24.next u493 (fun _ _ h => h.elim)
              refine ⟨[(41, .bool true), (44, .pointer (some ⟨t, 2, none⟩))], ⟨.inl ⟨24, some (.bool true), rfl, rfl, rfl⟩, .inl ⟨27, some (.pointer (some ⟨t, 2, none⟩)), rfl, rfl, rfl⟩, trivial⟩, fun Lr => ?_⟩
              show WL _ _ _ _ _ _ _ ((41, .bool true) :: (44, .pointer (some ⟨t, 2, none⟩)) :: Lr) _
              have B495 := ((((htb.keep u4 (show ¬ (T t) by first | omega | assumption)).keep u19 (fun h => h)).keep u22 (show ¬ (t = bk16) by first | omega | assumption)).keep u493 (fun h => h))
              refine t_load Try.isAgg158 rfl rfl rfl (B495.get rfl) ?_
              refine t_nil' ?_
              exact fun a ha => ⟨rfl, _, (fun v' h => by cases h; rfl), ha, ⟨u489, F490, F491, F492⟩⟩
            · -- 29
              intro D ρ w496 hcD hnD hdD hW
              obtain ⟨u497, F498, F499, F500⟩ := hW
              have u501 := u497 (hcD.late 53 (hcD.late 50 (hcD.late 37 (hcD.late 36 (hcD.late 35 (hcD.late 34 (hcD.late 33 (hcD.late 31 (hcD.late 30 hnD rfl) rfl) rfl) rfl) rfl) rfl) rfl) rfl) rfl)
              have zu501 := u501.size
              have E502 := E24.next u501 (fun _ _ h => h.elim)
              refine ⟨[(2, .pointer (some ⟨b4, 0, none⟩)), (41, .bool true)], ⟨.inr ⟨rfl, rfl⟩, .inl ⟨24, some (.bool true), rfl, rfl, rfl⟩, trivial⟩, fun Lr => ?_⟩
              show WL _ _ _ _ _ _ _ ((2, .pointer (some ⟨b4, 0, none⟩)) :: (41, .bool true) :: Lr) _
              have B503 := ((((h4.keep u4 (show ¬ (T b4) by first | omega | assumption)).keep u19 (fun h => h)).keep u22 (show ¬ (b4 = bk16) by first | omega | assumption)).keep u501 (fun h => h))
              refine t_load Try.isAgg3 rfl rfl rfl (B503.get rfl) ?_
              refine t_nil' ?_
              exact fun a ha => ⟨rfl, _, (fun v' h => by cases h; rfl), ha, ⟨u497, F498, F499, F500⟩⟩
            · -- 30
              intro D ρ w504 hcD hnD hdD hW
              obtain ⟨u505, F506, F507, F508⟩ := hW
              have u509 := u505 (hcD.late 53 (hcD.late 50 (hcD.late 37 (hcD.late 36 (hcD.late 35 (hcD.late 34 (hcD.late 33 (hcD.late 31 hnD rfl) rfl) rfl) rfl) rfl) rfl) rfl) rfl)
              have zu509 := u509.size
              have E510 := E24.next u509 (fun _ _ h => h.elim)
              refine ⟨[(41, .bool true), (45, .slice ar rows.length cr), (46, .int .i64 (i : Int))], ⟨.inl ⟨24, some (.bool true), rfl, rfl, rfl⟩, .inl ⟨28, some (.slice ar rows.length cr), rfl, rfl, rfl⟩, .inl ⟨29, some (.int .i64 (i : Int)), rfl, rfl, rfl⟩, trivial⟩, fun Lr => ?_⟩
              show WL _ _ _ _ _ _ _ ((41, .bool true) :: (45, .slice ar rows.length cr) :: (46, .int .i64 (i : Int)) :: Lr) _
              have D511 := (((D14.keep u19 (fun _ _ h => h)).keep u22 (fun i hi => show ¬ (i = bk16) by omega)).keep u509 (fun _ _ h => h))
              have i512 : i < rows.length := (by omega)
              refine t_index (j := i) Try.underlying158 Try.sizeOf157 rfl rfl rfl rfl (D511.ssl.addr (by omega)) rfl i512 ?_
              refine t_nil' ?_
              exact fun a ha => ⟨rfl, _, (fun v' h => by cases h; rfl), ha, ⟨u505, F506, F507, F508⟩⟩
            · -- 31
              intro D ρ w513 hcD hnD hdD hW
              obtain ⟨u514, F515, F516, F517⟩ := hW
              have u518 := u514 (hcD.late 53 (hcD.late 50 (hcD.late 37 (hcD.late 36 (hcD.late 35 (hcD.late 34 (hcD.late 33 hnD rfl) rfl) rfl) rfl) rfl) rfl) rfl)
              have zu518 := u518.size
              have E519 := E24.next u518 (fun _ _ h => h.elim)
              refine ⟨[(41, .bool true), (47, .pointer (some ⟨br, 0 + i * 1, none⟩))], ⟨.inl ⟨24, some (.bool true), rfl, rfl, rfl⟩, .inl ⟨30, some (.pointer (some ⟨br, 0 + i * 1, none⟩)), rfl, rfl, rfl⟩, trivial⟩, fun Lr => ?_⟩
              show WL _ _ _ _ _ _ _ ((41, .bool true) :: (47, .pointer (some ⟨br, 0 + i * 1, none⟩)) :: Lr) _
              have D520 := (((D14.keep u19 (fun _ _ h => h)).keep u22 (fun i hi => show ¬ (i = bk16) by omega)).keep u518 (fun _ _ h => h))
              refine t_load Try.isAgg157 rfl rfl rfl ((D520.ssl.at_ i (by omega)) 0 _ rfl) ?_
              refine t_nil' ?_
              exact fun a ha => ⟨rfl, _, (fun v' h => by cases h; rfl), ha, ⟨u514, F515, F516, F517⟩⟩
            · exact fun D ρ w hcD hnD hdD hW => ⟨[(5, .int .i64 (k : Int)), (41, .bool true)], ⟨.inr ⟨rfl, rfl⟩, .inl ⟨24, some (.bool true), rfl, rfl, rfl⟩, trivial⟩, fun Lr => t_move rfl rfl rfl (t_nil' fun a ha => ⟨rfl, _, (fun v' h => by cases h; rfl), ha, hW⟩)⟩
            · -- 33
              intro D ρ w521 hcD hnD hdD hW
              obtain ⟨u522, F523, F524, F525⟩ := hW
              have u526 := u522 (hcD.late 53 (hcD.late 50 (hcD.late 37 (hcD.late 36 (hcD.late 35 (hcD.late 34 hnD rfl) rfl) rfl) rfl) rfl) rfl)
              have zu526 := u526.size
              have E527 := E24.next u526 (fun _ _ h => h.elim)
              refine ⟨[(41, .bool true), (48, .slice ((nth rows i).ao) (((nth rows i).ss).length) ((nth rows i).cap)), (49, .int .i64 (k : Int))], ⟨.inl ⟨24, some (.bool true), rfl, rfl, rfl⟩, .inl ⟨31, some (.slice ((nth rows i).ao) (((nth rows i).ss).length) ((nth rows i).cap)), rfl, rfl, rfl⟩, .inl ⟨32, some (.int .i64 (k : Int)), rfl, rfl, rfl⟩, trivial⟩, fun Lr => ?_⟩
              show WL _ _ _ _ _ _ _ ((41, .bool true) :: (48, .slice ((nth rows i).ao) (((nth rows i).ss).length) ((nth rows i).cap)) :: (49, .int .i64 (k : Int)) :: Lr) _
              have D528 := (((D14.keep u19 (fun _ _ h => h)).keep u22 (fun i hi => show ¬ (i = bk16) by omega)).keep u526 (fun _ _ h => h))
              have i529 : k < ((nth rows i).ss).length := (by omega)
              refine t_index (j := k) Try.underlying157 Try.sizeOf141 rfl rfl rfl rfl ((D528.rsl (nth rows i) (nth_mem (by omega))).addr (by omega)) rfl i529 ?_
              refine t_nil' ?_
              exact fun a ha => ⟨rfl, _, (fun v' h => by cases h; rfl), ha, ⟨u522, F523, F524, F525⟩⟩
            · exact fun D ρ w hcD hnD hdD hW => ⟨[(41, .bool true), (50, .pointer (some ⟨(nth rows i).g, 0 + k * 5, none⟩))], ⟨.inl ⟨24, some (.bool true), rfl, rfl, rfl⟩, .inl ⟨33, some (.pointer (some ⟨(nth rows i).g, 0 + k * 5, none⟩)), rfl, rfl, rfl⟩, trivial⟩, fun Lr => t_field Try.underlying141 rfl Try.sizeOf4 (0 + k * 5 + 4) rfl rfl rfl rfl (t_nil' fun a ha => ⟨rfl, _, (fun v' h => by cases h; rfl), ha, hW⟩)⟩
            · -- 35
              intro D ρ w530 hcD hnD hdD hW
              obtain ⟨u531, F532, F533, F534⟩ := hW
              have u535 := u531 (hcD.late 53 (hcD.late 50 (hcD.late 37 (hcD.late 36 hnD rfl) rfl) rfl) rfl)
              have zu535 := u535.size
              have E536 := E24.next u535 (fun _ _ h => h.elim)
              refine ⟨[(41, .bool true), (51, .pointer (some ⟨(nth rows i).g, 0 + k * 5 + 4, none⟩))], ⟨.inl ⟨24, some (.bool true), rfl, rfl, rfl⟩, .inl ⟨34, some (.pointer (some ⟨(nth rows i).g, 0 + k * 5 + 4, none⟩)), rfl, rfl, rfl⟩, trivial⟩, fun Lr => ?_⟩
              show WL _ _ _ _ _ _ _ ((41, .bool true) :: (51, .pointer (some ⟨(nth rows i).g, 0 + k * 5 + 4, none⟩)) :: Lr) _
              have D537 := (((D14.keep u19 (fun _ _ h => h)).keep u22 (fun i hi => show ¬ (i = bk16) by omega)).keep u535 (fun _ _ h => h))
              refine t_load Try.isAgg4 rfl rfl rfl (((D537.rsl (nth rows i) (nth_mem (by omega))).at_ k (by omega)) 4 _ rfl) ?_
              refine t_nil' ?_
              exact fun a ha => ⟨rfl, _, (fun v' h => by cases h; rfl), ha, ⟨u531, F532, F533, F534⟩⟩
            · exact fun D ρ w hcD hnD hdD hW => ⟨[(41, .bool true), (52, .bool ((nth ((nth rows i).ss) k).there))], ⟨.inl ⟨24, some (.bool true), rfl, rfl, rfl⟩, .inl ⟨35, some (.bool ((nth ((nth rows i).ss) k).there)), rfl, rfl, rfl⟩, trivial⟩, fun Lr => t_pick_t rfl rfl rfl rfl (t_nil' fun a ha => ⟨rfl, _, (fun v' h => by cases h; rfl), ha, hW⟩)⟩
            · exact fun D ρ w hcD hnD hdD hW => ⟨[(53, .bool ((nth ((nth rows i).ss) k).there))], ⟨.inl ⟨36, some (.bool ((nth ((nth rows i).ss) k).there)), rfl, rfl, rfl⟩, trivial⟩, fun Lr => t_move rfl rfl rfl (t_samehd (v := .bool true) (by simp [g54]) (t_nil' fun a ha => ⟨rfl, _, (fun v' h => by cases h; rfl), ha, hW⟩))⟩
            · -- 38
              intro D ρ w538 hcD hnD hdD hW
              obtain ⟨u539, F540, F541, F542⟩ := hW
              have u543 := u539 (hcD.late 53 (hcD.late 50 (hcD.late 49 (hcD.late 48 (hcD.late 47 (hcD.late 46 (hcD.late 44 (hcD.late 43 (hcD.late 41 (hcD.late 40 (hcD.late 39 hnD rfl) rfl) rfl) rfl) rfl) rfl) rfl) rfl) rfl) rfl) rfl)
              have zu543 := u543.size
              have E544 := E24.next u543 (fun _ _ h => h.elim)
              refine ⟨[(1, .pointer (some ⟨b3, 0, none⟩)), (54, .bool true)], ⟨.inr ⟨rfl, rfl⟩, .inl ⟨37, some (.bool true), rfl, rfl, rfl⟩, trivial⟩, fun Lr => ?_⟩
              show WL _ _ _ _ _ _ _ ((1, .pointer (some ⟨b3, 0, none⟩)) :: (54, .bool true) :: Lr) _
              have B545 := ((((h3.keep u4 (show ¬ (T b3) by first | omega | assumption)).keep u19 (fun h => h)).keep u22 (show ¬ (b3 = bk16) by first | omega | assumption)).keep u543 (fun h => h))
              refine t_load Try.isAgg124 rfl rfl rfl (B545.get rfl) ?_
              refine t_nil' ?_
              exact fun a ha => ⟨rfl, _, (fun v' h => by cases h; rfl), ha, ⟨u539, F540, F541, F542⟩⟩
            · exact fun D ρ w hcD hnD hdD hW => ⟨[(54, .bool true), (55, .pointer (some ⟨t, 0, none⟩))], ⟨.inl ⟨37, some (.bool true), rfl, rfl, rfl⟩, .inl ⟨38, some (.pointer (some ⟨t, 0, none⟩)), rfl, rfl, rfl⟩, trivial⟩, fun Lr => t_nilchk rfl rfl rfl (t_nil' fun a ha => ⟨rfl, _, (fun v' h => by cases h; rfl), ha, hW⟩)⟩
            · exact fun D ρ w hcD hnD hdD hW => ⟨[(54, .bool true), (56, .pointer (some ⟨t, 0, none⟩))], ⟨.inl ⟨37, some (.bool true), rfl, rfl, rfl⟩, .inl ⟨39, some (.pointer (some ⟨t, 0, none⟩)), rfl, rfl, rfl⟩, trivial⟩, fun Lr => t_field Try.underlying160 rfl Try.sizeOf158 (2) rfl rfl rfl rfl (t_nil' fun a ha => ⟨rfl, _, (fun v' h => by cases h; rfl), ha, hW⟩)⟩
            · -- 41
              intro D ρ w546 hcD hnD hdD hW
              obtain ⟨u547, F548, F549, F550⟩ := hW
              have u551 := u547 (hcD.late 53 (hcD.late 50 (hcD.late 49 (hcD.late 48 (hcD.late 47 (hcD.late 46 (hcD.late 44 (hcD.late 43 hnD rfl) rfl) rfl) rfl) rfl) rfl) rfl) rfl)
              have zu551 := u551.size
              have E552 := E24.next u551 (fun _ _ h => h.elim)
              refine ⟨[(54, .bool true), (57, .pointer (some ⟨t, 2, none⟩))], ⟨.inl ⟨37, some (.bool true), rfl, rfl, rfl⟩, .inl ⟨40, some (.pointer (some ⟨t, 2, none⟩)), rfl, rfl, rfl⟩, trivial⟩, fun Lr => ?_⟩
              show WL _ _ _ _ _ _ _ ((54, .bool true) :: (57, .pointer (some ⟨t, 2, none⟩)) :: Lr) _
              have B553 := ((((htb.keep u4 (show ¬ (T t) by first | omega | assumption)).keep u19 (fun h => h)).keep u22 (show ¬ (t = bk16) by first | omega | assumption)).keep u551 (fun h => h))
              refine t_load Try.isAgg158 rfl rfl rfl (B553.get rfl) ?_
              refine t_nil' ?_
              exact fun a ha => ⟨rfl, _, (fun v' h => by cases h; rfl), ha, ⟨u547, F548, F549, F550⟩⟩
            · -- 42
              intro D ρ w554 hcD hnD hdD hW
              obtain ⟨u555, F556, F557, F558⟩ := hW
              have u559 := u555 (hcD.late 53 (hcD.late 50 (hcD.late 49 (hcD.late 48 (hcD.late 47 (hcD.late 46 (hcD.late 44 (hcD.late 43 hnD rfl) rfl) rfl) rfl) rfl) rfl) rfl) rfl)
              have zu559 := u559.size
              have E560 := E24.next u559 (fun _ _ h => h.elim)
              refine ⟨[(3, .pointer (some ⟨b5, 0, none⟩)), (54, .bool true)], ⟨.inr ⟨rfl, rfl⟩, .inl ⟨37, some (.bool true), rfl, rfl, rfl⟩, trivial⟩, fun Lr => ?_⟩
              show WL _ _ _ _ _ _ _ ((3, .pointer (some ⟨b5, 0, none⟩)) :: (54, .bool true) :: Lr) _
              have B561 := ((((h5.keep u4 (show ¬ (T b5) by first | omega | assumption)).keep u19 (fun h => h)).keep u22 (show ¬ (b5 = bk16) by first | omega | assumption)).keep u559 (fun h => h))
              refine t_load Try.isAgg3 rfl rfl rfl (B561.get rfl) ?_
              refine t_nil' ?_
              exact fun a ha => ⟨rfl, _, (fun v' h => by cases h; rfl), ha, ⟨u555, F556, F557, F558⟩⟩
            · -- 43
              intro D ρ w562 hcD hnD hdD hW
              obtain ⟨u563, F564, F565, F566⟩ := hW
              have u567 := u563 (hcD.late 53 (hcD.late 50 (hcD.late 49 (hcD.late 48 (hcD.late 47 (hcD.late 46 (hcD.late 44 hnD rfl) rfl) rfl) rfl) rfl) rfl) rfl)
              have zu567 := u567.size
              have E568 := E24.next u567 (fun _ _ h => h.elim)
              refine ⟨[(54, .bool true), (58, .slice ar rows.length cr), (59, .int .i64 (j : Int))], ⟨.inl ⟨37, some (.bool true), rfl, rfl, rfl⟩, .inl ⟨41, some (.slice ar rows.length cr), rfl, rfl, rfl⟩, .inl ⟨42, some (.int .i64 (j : Int)), rfl, rfl, rfl⟩, trivial⟩, fun Lr => ?_⟩
              show WL _ _ _ _ _ _ _ ((54, .bool true) :: (58, .slice ar rows.length cr) :: (59, .int .i64 (j : Int)) :: Lr) _
              have D569 := (((D14.keep u19 (fun _ _ h => h)).keep u22 (fun i hi => show ¬ (i = bk16) by omega)).keep u567 (fun _ _ h => h))
              have i570 : j < rows.length := (by omega)
              refine t_index (j := j) Try.underlying158 Try.sizeOf157 rfl rfl rfl rfl (D569.ssl.addr (by omega)) rfl i570 ?_
              refine t_nil' ?_
              exact fun a ha => ⟨rfl, _, (fun v' h => by cases h; rfl), ha, ⟨u563, F564, F565, F566⟩⟩
            · -- 44
              intro D ρ w571 hcD hnD hdD hW
              obtain ⟨u572, F573, F574, F575⟩ := hW
              have u576 := u572 (hcD.late 53 (hcD.late 50 (hcD.late 49 (hcD.late 48 (hcD.late 47 (hcD.late 46 hnD rfl) rfl) rfl) rfl) rfl) rfl)
              have zu576 := u576.size
              have E577 := E24.next u576 (fun _ _ h => h.elim)
              refine ⟨[(54, .bool true), (60, .pointer (some ⟨br, 0 + j * 1, none⟩))], ⟨.inl ⟨37, some (.bool true), rfl, rfl, rfl⟩, .inl ⟨43, some (.pointer (some ⟨br, 0 + j * 1, none⟩)), rfl, rfl, rfl⟩, trivial⟩, fun Lr => ?_⟩
              show WL _ _ _ _ _ _ _ ((54, .bool true) :: (60, .pointer (some ⟨br, 0 + j * 1, none⟩)) :: Lr) _
              have D578 := (((D14.keep u19 (fun _ _ h => h)).keep u22 (fun i hi => show ¬ (i = bk16) by omega)).keep u576 (fun _ _ h => h))
              refine t_load Try.isAgg157 rfl rfl rfl ((D578.ssl.at_ j (by omega)) 0 _ rfl) ?_
              refine t_nil' ?_
              exact fun a ha => ⟨rfl, _, (fun v' h => by cases h; rfl), ha, ⟨u572, F573, F574, F575⟩⟩
            · exact fun D ρ w hcD hnD hdD hW => ⟨[(5, .int .i64 (k : Int)), (54, .bool true)], ⟨.inr ⟨rfl, rfl⟩, .inl ⟨37, some (.bool true), rfl, rfl, rfl⟩, trivial⟩, fun Lr => t_move rfl rfl rfl (t_nil' fun a ha => ⟨rfl, _, (fun v' h => by cases h; rfl), ha, hW⟩)⟩
            · -- 46
              intro D ρ w579 hcD hnD hdD hW
              obtain ⟨u580, F581, F582, F583⟩ := hW
              have u584 := u580 (hcD.late 53 (hcD.late 50 (hcD.late 49 (hcD.late 48 (hcD.late 47 hnD rfl) rfl) rfl) rfl) rfl)
              have zu584 := u584.size
              have E585 := E24.next u584 (fun _ _ h => h.elim)
              refine ⟨[(54, .bool true), (61, .slice ((nth rows j).ao) (((nth rows j).ss).length) ((nth rows j).cap)), (62, .int .i64 (k : Int))], ⟨.inl ⟨37, some (.bool true), rfl, rfl, rfl⟩, .inl ⟨44, some (.slice ((nth rows j).ao) (((nth rows j).ss).length) ((nth rows j).cap)), rfl, rfl, rfl⟩, .inl ⟨45, some (.int .i64 (k : Int)), rfl, rfl, rfl⟩, trivial⟩, fun Lr => ?_⟩
              show WL _ _ _ _ _ _ _ ((54, .bool true) :: (61, .slice ((nth rows j).ao) (((nth rows j).ss).length) ((nth rows j).cap)) :: (62, .int .i64 (k : Int)) :: Lr) _
              have D586 := (((D14.keep u19 (fun _ _ h => h)).keep u22 (fun i hi => show ¬ (i = bk16) by omega)).keep u584 (fun _ _ h => h))
              have i587 : k < ((nth rows j).ss).length := (by omega)
              refine t_index (j := k) Try.underlying157 Try.sizeOf141 rfl rfl rfl rfl ((D586.rsl (nth rows j) (nth_mem (by omega))).addr (by omega)) rfl i587 ?_
              refine t_nil' ?_
              exact fun a ha => ⟨rfl, _, (fun v' h => by cases h; rfl), ha, ⟨u580, F581, F582, F583⟩⟩
            · exact fun D ρ w hcD hnD hdD hW => ⟨[(54, .bool true), (63, .pointer (some ⟨(nth rows j).g, 0 + k * 5, none⟩))], ⟨.inl ⟨37, some (.bool true), rfl, rfl, rfl⟩, .inl ⟨46, some (.pointer (some ⟨(nth rows j).g, 0 + k * 5, none⟩)), rfl, rfl, rfl⟩, trivial⟩, fun Lr => t_field Try.underlying141 rfl Try.sizeOf4 (0 + k * 5 + 4) rfl rfl rfl rfl (t_nil' fun a ha => ⟨rfl, _, (fun v' h => by cases h; rfl), ha, hW⟩)⟩
            · -- 48
              intro D ρ w588 hcD hnD hdD hW
              obtain ⟨u589, F590, F591, F592⟩ := hW
              have u593 := u589 (hcD.late 53 (hcD.late 50 (hcD.late 49 hnD rfl) rfl) rfl)
              have zu593 := u593.size
              have E594 := E24.next u593 (fun _ _ h => h.elim)
              refine ⟨[(54, .bool true), (64, .pointer (some ⟨(nth rows j).g, 0 + k * 5 + 4, none⟩))], ⟨.inl ⟨37, some (.bool true), rfl, rfl, rfl⟩, .inl ⟨47, some (.pointer (some ⟨(nth rows j).g, 0 + k * 5 + 4, none⟩)), rfl, rfl, rfl⟩, trivial⟩, fun Lr => ?_⟩
              show WL _ _ _ _ _ _ _ ((54, .bool true) :: (64, .pointer (some ⟨(nth rows j).g, 0 + k * 5 + 4, none⟩)) :: Lr) _
              have D595 := (((D14.keep u19 (fun _ _ h => h)).keep u22 (fun i hi => show ¬ (i = bk16) by omega)).keep u593 (fun _ _ h => h))
              refine t_load Try.isAgg4 rfl rfl rfl (((D595.rsl (nth rows j) (nth_mem (by omega))).at_ k (by omega)) 4 _ rfl) ?_
              refine t_nil' ?_
              exact fun a ha => ⟨rfl, _, (fun v' h => by cases h; rfl), ha, ⟨u589, F590, F591, F592⟩⟩
            · exact fun D ρ w hcD hnD hdD hW => ⟨[(54, .bool true), (65, .bool ((nth ((nth rows j).ss) k).there))], ⟨.inl ⟨37, some (.bool true), rfl, rfl, rfl⟩, .inl ⟨48, some (.bool ((nth ((nth rows j).ss) k).there)), rfl, rfl, rfl⟩, trivial⟩, fun Lr => t_pick_t rfl rfl rfl rfl (t_nil' fun a ha => ⟨rfl, _, (fun v' h => by cases h; rfl), ha, hW⟩)⟩
            · exact fun D ρ w hcD hnD hdD hW => ⟨[(66, .bool ((nth ((nth rows j).ss) k).there))], ⟨.inl ⟨49, some (.bool ((nth ((nth rows j).ss) k).there)), rfl, rfl, rfl⟩, trivial⟩, fun Lr => t_move rfl rfl rfl (t_samehd (v := .bool true) (by simp [g67]) (t_nil' fun a ha => ⟨rfl, _, (fun v' h => by cases h; rfl), ha, hW⟩))⟩
            · exact fun D ρ w hcD hnD hdD hW => ⟨[(0, .func (.yield l) #[] #[]), (67, .bool true)], ⟨.inr ⟨rfl, rfl⟩, .inl ⟨50, some (.bool true), rfl, rfl, rfl⟩, trivial⟩, fun Lr => t_move rfl rfl rfl (t_nil' fun a ha => ⟨rfl, _, (fun v' h => by cases h; rfl), ha, hW⟩)⟩
            · exact fun D ρ w hcD hnD hdD hW => ⟨[(5, .int .i64 (k : Int)), (67, .bool true)], ⟨.inr ⟨rfl, rfl⟩, .inl ⟨50, some (.bool true), rfl, rfl, rfl⟩, trivial⟩, fun Lr => t_move rfl rfl rfl (t_nil' fun a ha => ⟨rfl, _, (fun v' h => by cases h; rfl), ha, hW⟩)⟩
            · -- 53
              intro D ρ w596 hcD hnD hdD hW
              obtain ⟨u597, F598, F599, F600⟩ := hW
              have u601 := u597 hnD
              have zu601 := u601.size
              have E602 := E24.next u601 (fun _ _ h => h.elim)
              refine ⟨[(67, .bool true), (68, .func (.yield l) #[] #[]), (69, .int .i64 (k : Int))], ⟨.inl ⟨50, some (.bool true), rfl, rfl, rfl⟩, .inl ⟨51, some (.func (.yield l) #[] #[]), rfl, rfl, rfl⟩, .inl ⟨52, some (.int .i64 (k : Int)), rfl, rfl, rfl⟩, trivial⟩, fun Lr => ?_⟩
              show WL _ _ _ _ _ _ _ ((67, .bool true) :: (68, .func (.yield l) #[] #[]) :: (69, .int .i64 (k : Int)) :: Lr) _
              refine t_yield (vs := [.int .i64 (k : Int)]) rfl rfl rfl rfl (hY pre ⟨k, hkn⟩ _ (hJ _ _ _ none hJk (Ext.grownBy ((((Upd.refl (fun _ => False) _).next u19 (fun _ _ h => h.elim)).next u22 (fun i hi (h : i = bk16) => show False by first | omega | assumption)).next u601 (fun _ _ h => h.elim))) (fun r e => by cases e)) hpl21) (by rintro e w' (⟨rfl, _⟩ | ⟨rfl, _⟩) <;> exact ⟨_, rfl⟩) (fun v603 w604 r605 => ?_)
              obtain ⟨yb, rfl, hrd⟩ : ∃ b, v603 = .bool b ∧ ((b = true → J (pre ++ [⟨k, hkn⟩]) w604 ∧ Upd T w596 w604) ∧ (b = false → Jx (pre ++ [⟨k, hkn⟩]) w604)) := by
                rcases r605 with ⟨e, h⟩ | ⟨e, h⟩
                · injection e with e; exact ⟨true, e, fun _ => h, fun h => by cases h⟩
                · injection e with e; exact ⟨false, e, fun h => (by cases h), fun _ => h⟩
              refine t_nil' ?_
              exact fun a ha => ⟨rfl, _, (fun v' h => by cases h), ha, ⟨(fun h => by cases h), (fun _ => ⟨yb, rfl, ⟨fun h => ⟨(hrd.1 h).1, (Ext.to u601).trans (hrd.1 h).2⟩, hrd.2⟩⟩), (fun h => absurd ((hcD.late 54 hnD rfl).symm.trans h) (by decide)), (fun h => absurd ((hcD.late 55 (hcD.late 54 hnD rfl) rfl).symm.trans h) (by decide))⟩⟩
            · -- 54
              intro D ρ w606 hcD hnD hdD hW
              obtain ⟨u607, F608, F609, F610⟩ := hW
              obtain ⟨yb, e612, e611⟩ := F608 (hdD 53 rfl)
              refine ⟨[(67, .bool true), (70, .bool yb)], ⟨.inl ⟨50, some (.bool true), rfl, rfl, rfl⟩, .inl ⟨53, none, rfl, rfl, e612.symm⟩, trivial⟩, fun Lr => ?_⟩
              show WL _ _ _ _ _ _ _ ((67, .bool true) :: (70, .bool yb) :: Lr) _
              refine t_not rfl rfl rfl ?_
              refine t_nil' ?_
              exact fun a ha => ⟨rfl, _, (fun v' h => by cases h), ha, ⟨u607, F608, (fun _ => ⟨yb, e612, rfl⟩), F610⟩⟩
            · -- 55
              intro D ρ w613 hcD hnD hdD hW
              obtain ⟨u614, F615, F616, F617⟩ := hW
              obtain ⟨yb, e619, e618⟩ := F616 (hdD 54 rfl)
              refine ⟨[(67, .bool true), (71, .bool (!yb))], ⟨.inl ⟨50, some (.bool true), rfl, rfl, rfl⟩, .inl ⟨54, none, rfl, rfl, e618.symm⟩, trivial⟩, fun Lr => ?_⟩
              show WL _ _ _ _ _ _ _ ((67, .bool true) :: (71, .bool (!yb)) :: Lr) _
              refine t_pick_t rfl rfl rfl rfl ?_
              refine t_nil' ?_
              exact fun a ha => ⟨rfl, _, (fun v' h => by cases h), ha, ⟨u614, F615, F616, (fun _ => ⟨yb, e619, rfl⟩)⟩⟩
            intro ρ w620 hW
            obtain ⟨u621, F622, F623, F624⟩ := hW
            obtain ⟨yb, e625, hrd⟩ := F622 rfl
            obtain ⟨b627, e628, e626⟩ := F623 rfl
            obtain rfl : yb = b627 := Value.bool.inj (e625.symm.trans e628)
            obtain ⟨b630, e631, e629⟩ := F624 rfl
            obtain rfl : yb = b630 := Value.bool.inj (e625.symm.trans e631)
            refine QK.weak [(0, .func (.yield l) #[] #[]), (1, .pointer (some ⟨b3, 0, none⟩)), (2, .pointer (some ⟨b4, 0, none⟩)), (3, .pointer (some ⟨b5, 0, none⟩)), (5, .int .i64 (k : Int)), (6, .pointer (some ⟨bk16, 0, none⟩)), (10, .slice an ns.length cn), (11, .int .i64 (ns.length : Int)), (12, .int .i64 (k : Int)), (13, .bool (decide ((k : Int) < (ns.length : Int)))), (14, .int .i64 (k : Int)), (15, .pointer (some ⟨bn, on + k * 4, none⟩)), (16, .agg #[.int .i64 ((nth ns k).frm), .int .i64 ((nth ns k).to), .int .i64 ((nth ns k).wid), .bool ((nth ns k).single)]), (17, .pointer (some ⟨bk16, 3, none⟩)), (18, .bool ((nth ns k).single)), (19, .bool false), (20, .pointer (some ⟨t, 0, none⟩)), (21, .pointer (some ⟨t, 0, none⟩)), (22, .pointer (some ⟨t, 0, none⟩)), (23, .slice av vs.length cv), (24, .int .i64 (i : Int)), (25, .pointer (some ⟨bv, ov + i * 5, none⟩)), (26, .pointer (some ⟨bv, ov + i * 5 + 4, none⟩)), (27, .int .i64 ((nth vs i).v.wid)), (28, .pointer (some ⟨t, 0, none⟩)), (29, .pointer (some ⟨t, 0, none⟩)), (30, .pointer (some ⟨t, 0, none⟩)), (31, .slice av vs.length cv), (32, .int .i64 (j : Int)), (33, .pointer (some ⟨bv, ov + j * 5, none⟩)), (34, .pointer (some ⟨bv, ov + j * 5 + 4, none⟩)), (35, .int .i64 ((nth vs j).v.wid)), (36, .int .i64 ((nth vs i).v.wid + ((nth vs j).v.wid))), (37, .pointer (some ⟨bk16, 2, none⟩)), (38, .int .i64 ((nth ns k).wid)), (39, .bool (decide ((nth ns k).wid < ((nth vs i).v.wid + ((nth vs j).v.wid))))), (40, .bool (decide ((nth ns k).wid < ((nth vs i).v.wid + ((nth vs j).v.wid))))), (41, .bool true), (42, .pointer (some ⟨t, 0, none⟩)), (43, .pointer (some ⟨t, 0, none⟩)), (44, .pointer (some ⟨t, 2, none⟩)), (45, .slice ar rows.length cr), (46, .int .i64 (i : Int)), (47, .pointer (some ⟨br, 0 + i * 1, none⟩)), (48, .slice ((nth rows i).ao) (((nth rows i).ss).length) ((nth rows i).cap)), (49, .int .i64 (k : Int)), (50, .pointer (some ⟨(nth rows i).g, 0 + k * 5, none⟩)), (51, .pointer (some ⟨(nth rows i).g, 0 + k * 5 + 4, none⟩)), (52, .bool ((nth ((nth rows i).ss) k).there)), (53, .bool ((nth ((nth rows i).ss) k).there)), (54, .bool true), (55, .pointer (some ⟨t, 0, none⟩)), (56, .pointer (some ⟨t, 0, none⟩)), (57, .pointer (some ⟨t, 2, none⟩)), (58, .slice ar rows.length cr), (59, .int .i64 (j : Int)), (60, .pointer (some ⟨br, 0 + j * 1, none⟩)), (61, .slice ((nth rows j).ao) (((nth rows j).ss).length) ((nth rows j).cap)), (62, .int .i64 (k : Int)), (63, .pointer (some ⟨(nth rows j).g, 0 + k * 5, none⟩)), (64, .pointer (some ⟨(nth rows j).g, 0 + k * 5 + 4, none⟩)), (65, .bool ((nth ((nth rows j).ss) k).there)), (66, .bool ((nth ((nth rows j).ss) k).there)), (67, .bool true), (68, .func (.yield l) #[] #[]), (69, .int .i64 (k : Int)), (70, .bool yb), (71, .bool (!yb)), (72, .bool (!yb))] ⟨rfl, rfl, rfl, rfl, rfl, rfl, rfl, rfl, rfl, rfl, rfl, rfl, rfl, rfl, rfl, rfl, rfl, rfl, rfl, rfl, rfl, rfl, rfl, rfl, rfl, rfl, rfl, rfl, rfl, rfl, rfl, rfl, rfl, rfl, rfl, rfl, rfl, rfl, rfl, rfl, rfl, rfl, rfl, rfl, rfl, rfl, rfl, rfl, rfl, rfl, rfl, rfl, rfl, rfl, rfl, rfl, rfl, rfl, rfl, rfl, rfl, rfl, rfl, rfl, rfl, rfl, (look_nd (j := 53) rfl rfl rfl e625), (look_nd (j := 54) rfl rfl rfl e626), (look_nd (j := 55) rfl rfl rfl e629), trivial⟩ ?_
            refine hK25 _ _ ?_
            refine c_cond rfl (fun g72 => ?_) (fun g72 => ?_)
            · -- .bool (!yb)
              refine c_ret ?_
              refine f_ret0 Try.results108 ?_
              exact ⟨_, rfl, .inr ⟨_, hrd.2 (by simpa using g72)⟩⟩
            · -- not .bool (!yb)
              obtain ⟨hJ2, u632⟩ := hrd.1 (by simpa using g72)
              have zu632 := u632.size
              have E633 := E24.next u632 (fun i hi (h : T i) => show T i by first | omega | assumption)
              refine c_skip ?_
              refine hK12 _ _ ?_
              refine c_region ?_
              refine t_ari rfl rfl rfl rfl rfl (by omega) ?_
              refine t_move rfl rfl rfl ?_
              refine t_nil' ?_
              exact hK2 (k + 1, pre ++ [⟨k, hkn⟩]) _ _ (by show ns.length - (k + 1) < ns.length - k; omega) ⟨rfl, rfl, rfl, rfl, rfl, rfl, rfl, trivial⟩ ⟨(((u4.next u19 (fun _ _ h => h.elim)).next u22 (fun i hi (h : i = bk16) => show T i by first | omega | assumption)).next u632 (fun i hi (h : T i) => show T i by first | omega | assumption)), (by omega), (by show (pre ++ [(⟨k, hkn⟩ : Ix ns.length)]).map (·.1) = _; rw [vals_snoc hpre, filter_succ, if_pos (by simp only [barB]; simp_all)]), (by show (pre ++ [_]).length ≤ k + 1; simp; omega), hJ2⟩
          ·
            refine WC.weak [(0, .func (.yield l) #[] #[]), (1, .pointer (some ⟨b3, 0, none⟩)), (2, .pointer (some ⟨b4, 0, none⟩)), (3, .pointer (some ⟨b5, 0, none⟩)), (5, .int .i64 (k : Int)), (6, .pointer (some ⟨bk16, 0, none⟩)), (10, .slice an ns.length cn), (11, .int .i64 (ns.length : Int)), (12, .int .i64 (k : Int)), (13, .bool (decide ((k : Int) < (ns.length : Int)))), (14, .int .i64 (k : Int)), (15, .pointer (some ⟨bn, on + k * 4, none⟩)), (16, .agg #[.int .i64 ((nth ns k).frm), .int .i64 ((nth ns k).to), .int .i64 ((nth ns k).wid), .bool ((nth ns k).single)])] ⟨rfl, rfl, rfl, rfl, rfl, rfl, rfl, rfl, rfl, rfl, rfl, rfl, rfl, trivial⟩ ?_
            refine c_drawn followsS' 56 [some (17, some (.pointer (some ⟨bk16, 3, none⟩))), some (18, some (.bool ((nth ns k).single))), some (19, some (.bool false)), some (20, some (.pointer (some ⟨t, 0, none⟩))), some (21, some (.pointer (some ⟨t, 0, none⟩))), some (22, some (.pointer (some ⟨t, 0, none⟩))), some (23, some (.slice av vs.length cv)), some (24, some (.int .i64 (i : Int))), some (25, some (.pointer (some ⟨bv, ov + i * 5, none⟩))), some (26, some (.pointer (some ⟨bv, ov + i * 5 + 4, none⟩))), some (27, some (.int .i64 ((nth vs i).v.wid))), some (28, some (.pointer (some ⟨t, 0, none⟩))), some (29, some (.pointer (some ⟨t, 0, none⟩))), some (30, some (.pointer (some ⟨t, 0, none⟩))), some (31, some (.slice av vs.length cv)), some (32, some (.int .i64 (j : Int))), some (33, some (.pointer (some ⟨bv, ov + j * 5, none⟩))), some (34, some (.pointer (some ⟨bv, ov + j * 5 + 4, none⟩))), some (35, some (.int .i64 ((nth vs j).v.wid))), some (36, some (.int .i64 ((nth vs i).v.wid + ((nth vs j).v.wid)))), some (37, some (.pointer (some ⟨bk16, 2, none⟩))), some (38, some (.int .i64 ((nth ns k).wid))), some (39, some (.bool (decide ((nth ns k).wid < ((nth vs i).v.wid + ((nth vs j).v.wid)))))), some (40, some (.bool (decide ((nth ns k).wid < ((nth vs i).v.wid + ((nth vs j).v.wid)))))), some (41, some (.bool true)), some (42, some (.pointer (some ⟨t, 0, none⟩))), some (43, some (.pointer (some ⟨t, 0, none⟩))), some (44, some (.pointer (some ⟨t, 2, none⟩))), some (45, some (.slice ar rows.length cr)), some (46, some (.int .i64 (i : Int))), some (47, some (.pointer (some ⟨br, 0 + i * 1, none⟩))), some (48, some (.slice ((nth rows i).ao) (((nth rows i).ss).length) ((nth rows i).cap))), some (49, some (.int .i64 (k : Int))), some (50, some (.pointer (some ⟨(nth rows i).g, 0 + k * 5, none⟩))), some (51, some (.pointer (some ⟨(nth rows i).g, 0 + k * 5 + 4, none⟩))), some (52, some (.bool ((nth ((nth rows i).ss) k).there))), some (53, some (.bool ((nth ((nth rows i).ss) k).there))), some (54, some (.bool true)), some (55, some (.pointer (some ⟨t, 0, none⟩))), some (56, some (.pointer (some ⟨t, 0, none⟩))), some (57, some (.pointer (some ⟨t, 2, none⟩))), some (58, some (.slice ar rows.length cr)), some (59, some (.int .i64 (j : Int))), some (60, some (.pointer (some ⟨br, 0 + j * 1, none⟩))), some (61, some (.slice ((nth rows j).ao) (((nth rows j).ss).length) ((nth rows j).cap))), some (62, some (.int .i64 (k : Int))), some (63, some (.pointer (some ⟨(nth rows j).g, 0 + k * 5, none⟩))), some (64, some (.pointer (some ⟨(nth rows j).g, 0 + k * 5 + 4, none⟩))), some (65, some (.bool ((nth ((nth rows j).ss) k).there))), some (66, some (.bool ((nth ((nth rows j).ss) k).there))), some (67, some (.bool false)), some (68, some (undef)), some (69, some (undef)), some (70, some (undef)), some (71, some (undef)), some (72, some (.bool false))] [[], [0], [1], [2], [3, 2], [4, 2], [5, 2], [2], [6, 7, 2], [8, 2], [9, 2], [2], [11, 2], [12, 2], [13, 2], [2], [14, 15, 2], [16, 2], [17, 2], [10, 18, 2], [2], [20, 2], [19, 21, 2], [2, 22], [23, 2], [24], [25, 24], [26, 24], [27, 24], [24], [28, 29, 24], [30, 24], [24], [31, 32, 24], [33, 24], [34, 24], [24, 35], [36, 24], [37], [38, 37], [39, 37], [40, 37], [37], [41, 42, 37], [43, 37], [37], [44, 45, 37], [46, 37], [47, 37], [37, 48], [49, 37], [50], [50], [51, 52, 50, 50], [53, 50], [50, 54]] (fun _ _ w => Upd (fun _ => False) w21 w) rfl rfl rfl (by kernel_rfl) (by kernel_rfl) (Upd.drew _).to ⟨?_, ?_, ?_, ?_, ?_, ?_, ?_, ?_, ?_, ?_, ?_, ?_, ?_, ?_, ?_, ?_, ?_, ?_, ?_, ?_, ?_, ?_, ?_, ?_, ?_, ?_, ?_, ?_, ?_, ?_, ?_, ?_, ?_, ?_, ?_, ?_, ?_, ?_, ?_, ?_, ?_, ?_, ?_, ?_, ?_, ?_, ?_, ?_, ?_, ?_, ?_, ?_, ?_, ?_, ?_, ?_, trivial⟩ ?_
            · exact fun D ρ w hcD hnD hdD hW => ⟨[(6, .pointer (some ⟨bk16, 0, none⟩))], ⟨.inr ⟨rfl, rfl⟩, trivial⟩, fun Lr => t_field Try.underlying72 rfl Try.sizeOf4 (3) rfl rfl rfl rfl (t_nil' fun a ha => ⟨rfl, _, (fun v' h => by cases h; rfl), ha, hW⟩)⟩
            · -- 1
              intro D ρ w645 hcD hnD hdD hW
              have zhW := hW.size
              have E647 := E24.next hW (fun _ _ h => h.elim)
              refine ⟨[(17, .pointer (some ⟨bk16, 3, none⟩))], ⟨.inl ⟨0, some (.pointer (some ⟨bk16, 3, none⟩)), rfl, rfl, rfl⟩, trivial⟩, fun Lr => ?_⟩
              show WL _ _ _ _ _ _ _ ((17, .pointer (some ⟨bk16, 3, none⟩)) :: Lr) _
              have B648 := (B23.keep hW (fun h => h))
              refine t_load Try.isAgg4 rfl rfl rfl (B648.get rfl) ?_
              refine t_nil' ?_
              exact fun a ha => ⟨rfl, _, (fun v' h => by cases h; rfl), ha, hW⟩
            · exact fun D ρ w hcD hnD hdD hW => ⟨[(18, .bool ((nth ns k).single))], ⟨.inl ⟨1, some (.bool ((nth ns k).single)), rfl, rfl, rfl⟩, trivial⟩, fun Lr => t_move rfl rfl rfl (t_samehd (v := .bool false) (by simp [g19]) (t_nil' fun a ha => ⟨rfl, _, (fun v' h => by cases h; rfl), ha, hW⟩))⟩
            · -- 3
              intro D ρ w649 hcD hnD hdD hW
              have zhW := hW.size
              have E651 := E24.next hW (fun _ _ h => h.elim)
              refine ⟨[(1, .pointer (some ⟨b3, 0, none⟩)), (19, .bool false)], ⟨.inr ⟨rfl, rfl⟩, .inl ⟨2, some (.bool false), rfl, rfl, rfl⟩, trivial⟩, fun Lr => ?_⟩
              show WL _ _ _ _ _ _ _ ((1, .pointer (some ⟨b3, 0, none⟩)) :: (19, .bool false) :: Lr) _
              have B652 := ((((h3.keep u4 (show ¬ (T b3) by first | omega | assumption)).keep u19 (fun h => h)).keep u22 (show ¬ (b3 = bk16) by first | omega | assumption)).keep hW (fun h => h))
              refine t_load Try.isAgg124 rfl rfl rfl (B652.get rfl) ?_
              refine t_nil' ?_
              exact fun a ha => ⟨rfl, _, (fun v' h => by cases h; rfl), ha, hW⟩
            · exact fun D ρ w hcD hnD hdD hW => ⟨[(19, .bool false), (20, .pointer (some ⟨t, 0, none⟩))], ⟨.inl ⟨2, some (.bool false), rfl, rfl, rfl⟩, .inl ⟨3, some (.pointer (some ⟨t, 0, none⟩)), rfl, rfl, rfl⟩, trivial⟩, fun Lr => t_nilchk rfl rfl rfl (t_nil' fun a ha => ⟨rfl, _, (fun v' h => by cases h; rfl), ha, hW⟩)⟩
            · exact fun D ρ w hcD hnD hdD hW => ⟨[(19, .bool false), (21, .pointer (some ⟨t, 0, none⟩))], ⟨.inl ⟨2, some (.bool false), rfl, rfl, rfl⟩, .inl ⟨4, some (.pointer (some ⟨t, 0, none⟩)), rfl, rfl, rfl⟩, trivial⟩, fun Lr => t_field Try.underlying160 rfl Try.sizeOf34 (0) rfl rfl rfl rfl (t_nil' fun a ha => ⟨rfl, _, (fun v' h => by cases h; rfl), ha, hW⟩)⟩
            · -- 6
              intro D ρ w653 hcD hnD hdD hW
              have zhW := hW.size
              have E655 := E24.next hW (fun _ _ h => h.elim)
              refine ⟨[(19, .bool false), (22, .pointer (some ⟨t, 0, none⟩))], ⟨.inl ⟨2, some (.bool false), rfl, rfl, rfl⟩, .inl ⟨5, some (.pointer (some ⟨t, 0, none⟩)), rfl, rfl, rfl⟩, trivial⟩, fun Lr => ?_⟩
              show WL _ _ _ _ _ _ _ ((19, .bool false) :: (22, .pointer (some ⟨t, 0, none⟩)) :: Lr) _
              have B656 := ((((htb.keep u4 (show ¬ (T t) by first | omega | assumption)).keep u19 (fun h => h)).keep u22 (show ¬ (t = bk16) by first | omega | assumption)).keep hW (fun h => h))
              refine t_load Try.isAgg34 rfl rfl rfl (B656.get rfl) ?_
              refine t_nil' ?_
              exact fun a ha => ⟨rfl, _, (fun v' h => by cases h; rfl), ha, hW⟩
            · -- 7
              intro D ρ w657 hcD hnD hdD hW
              have zhW := hW.size
              have E659 := E24.next hW (fun _ _ h => h.elim)
              refine ⟨[(2, .pointer (some ⟨b4, 0, none⟩)), (19, .bool false)], ⟨.inr ⟨rfl, rfl⟩, .inl ⟨2, some (.bool false), rfl, rfl, rfl⟩, trivial⟩, fun Lr => ?_⟩
              show WL _ _ _ _ _ _ _ ((2, .pointer (some ⟨b4, 0, none⟩)) :: (19, .bool false) :: Lr) _
              have B660 := ((((h4.keep u4 (show ¬ (T b4) by first | omega | assumption)).keep u19 (fun h => h)).keep u22 (show ¬ (b4 = bk16) by first | omega | assumption)).keep hW (fun h => h))
              refine t_load Try.isAgg3 rfl rfl rfl (B660.get rfl) ?_
              refine t_nil' ?_
              exact fun a ha => ⟨rfl, _, (fun v' h => by cases h; rfl), ha, hW⟩
            · -- 8
              intro D ρ w661 hcD hnD hdD hW
              have zhW := hW.size
              have E663 := E24.next hW (fun _ _ h => h.elim)
              refine ⟨[(19, .bool false), (23, .slice av vs.length cv), (24, .int .i64 (i : Int))], ⟨.inl ⟨2, some (.bool false), rfl, rfl, rfl⟩, .inl ⟨6, some (.slice av vs.length cv), rfl, rfl, rfl⟩, .inl ⟨7, some (.int .i64 (i : Int)), rfl, rfl, rfl⟩, trivial⟩, fun Lr => ?_⟩
              show WL _ _ _ _ _ _ _ ((19, .bool false) :: (23, .slice av vs.length cv) :: (24, .int .i64 (i : Int)) :: Lr) _
              have D664 := (((D14.keep u19 (fun _ _ h => h)).keep u22 (fun i hi => show ¬ (i = bk16) by omega)).keep hW (fun _ _ h => h))
              have i665 : i < vs.length := (by omega)
              refine t_index (j := i) Try.underlying34 Try.sizeOf48 rfl rfl rfl rfl (D664.vsl.addr (by omega)) rfl i665 ?_
              refine t_nil' ?_
              exact fun a ha => ⟨rfl, _, (fun v' h => by cases h; rfl), ha, hW⟩
            · exact fun D ρ w hcD hnD hdD hW => ⟨[(19, .bool false), (25, .pointer (some ⟨bv, ov + i * 5, none⟩))], ⟨.inl ⟨2, some (.bool false), rfl, rfl, rfl⟩, .inl ⟨8, some (.pointer (some ⟨bv, ov + i * 5, none⟩)), rfl, rfl, rfl⟩, trivial⟩, fun Lr => t_field Try.underlying48 rfl Try.sizeOf3 (ov + i * 5 + 4) rfl rfl rfl rfl (t_nil' fun a ha => ⟨rfl, _, (fun v' h => by cases h; rfl), ha, hW⟩)⟩
            · -- 10
              intro D ρ w666 hcD hnD hdD hW
              have zhW := hW.size
              have E668 := E24.next hW (fun _ _ h => h.elim)
              refine ⟨[(19, .bool false), (26, .pointer (some ⟨bv, ov + i * 5 + 4, none⟩))], ⟨.inl ⟨2, some (.bool false), rfl, rfl, rfl⟩, .inl ⟨9, some (.pointer (some ⟨bv, ov + i * 5 + 4, none⟩)), rfl, rfl, rfl⟩, trivial⟩, fun Lr => ?_⟩
              show WL _ _ _ _ _ _ _ ((19, .bool false) :: (26, .pointer (some ⟨bv, ov + i * 5 + 4, none⟩)) :: Lr) _
              have D669 := (((D14.keep u19 (fun _ _ h => h)).keep u22 (fun i hi => show ¬ (i = bk16) by omega)).keep hW (fun _ _ h => h))
              refine t_load Try.isAgg3 rfl rfl rfl ((D669.vsl.at_ i (by omega)) 4 _ rfl) ?_
              refine t_nil' ?_
              exact fun a ha => ⟨rfl, _, (fun v' h => by cases h; rfl), ha, hW⟩
            · -- 11
              intro D ρ w670 hcD hnD hdD hW
              have zhW := hW.size
              have E672 := E24.next hW (fun _ _ h => h.elim)
              refine ⟨[(1, .pointer (some ⟨b3, 0, none⟩)), (19, .bool false)], ⟨.inr ⟨rfl, rfl⟩, .inl ⟨2, some (.bool false), rfl, rfl, rfl⟩, trivial⟩, fun Lr => ?_⟩
              show WL _ _ _ _ _ _ _ ((1, .pointer (some ⟨b3, 0, none⟩)) :: (19, .bool false) :: Lr) _
              have B673 := ((((h3.keep u4 (show ¬ (T b3) by first | omega | assumption)).keep u19 (fun h => h)).keep u22 (show ¬ (b3 = bk16) by first | omega | assumption)).keep hW (fun h => h))
              refine t_load Try.isAgg124 rfl rfl rfl (B673.get rfl) ?_
              refine t_nil' ?_
              exact fun a ha => ⟨rfl, _, (fun v' h => by cases h; rfl), ha, hW⟩
            · exact fun D ρ w hcD hnD hdD hW => ⟨[(19, .bool false), (28, .pointer (some ⟨t, 0, none⟩))], ⟨.inl ⟨2, some (.bool false), rfl, rfl, rfl⟩, .inl ⟨11, some (.pointer (some ⟨t, 0, none⟩)), rfl, rfl, rfl⟩, trivial⟩, fun Lr => t_nilchk rfl rfl rfl (t_nil' fun a ha => ⟨rfl, _, (fun v' h => by cases h; rfl), ha, hW⟩)⟩
            · exact fun D ρ w hcD hnD hdD hW => ⟨[(19, .bool false), (29, .pointer (some ⟨t, 0, none⟩))], ⟨.inl ⟨2, some (.bool false), rfl, rfl, rfl⟩, .inl ⟨12, some (.pointer (some ⟨t, 0, none⟩)), rfl, rfl, rfl⟩, trivial⟩, fun Lr => t_field Try.underlying160 rfl Try.sizeOf34 (0) rfl rfl rfl rfl (t_nil' fun a ha => ⟨rfl, _, (fun v' h => by cases h; rfl), ha, hW⟩)⟩
            · -- 14
              intro D ρ w674 hcD hnD hdD hW
              have zhW := hW.size
              have E676 := E24.next hW (fun _ _ h => h.elim)
              refine ⟨[(19, .bool false), (30, .pointer (some ⟨t, 0, none⟩))], ⟨.inl ⟨2, some (.bool false), rfl, rfl, rfl⟩, .inl ⟨13, some (.pointer (some ⟨t, 0, none⟩)), rfl, rfl, rfl⟩, trivial⟩, fun Lr => ?_⟩
              show WL _ _ _ _ _ _ _ ((19, .bool false) :: (30, .pointer (some ⟨t, 0, none⟩)) :: Lr) _
              have B677 := ((((htb.keep u4 (show ¬ (T t) by first | omega | assumption)).keep u19 (fun h => h)).keep u22 (show ¬ (t = bk16) by first | omega | assumption)).keep hW (fun h => h))
              refine t_load Try.isAgg34 rfl rfl rfl (B677.get rfl) ?_
              refine t_nil' ?_
              exact fun a ha => ⟨rfl, _, (fun v' h => by cases h; rfl), ha, hW⟩
            · -- 15
              intro D ρ w678 hcD hnD hdD hW
              have zhW := hW.size
              have E680 := E24.next hW (fun _ _ h => h.elim)
              refine ⟨[(3, .pointer (some ⟨b5, 0, none⟩)), (19, .bool false)], ⟨.inr ⟨rfl, rfl⟩, .inl ⟨2, some (.bool false), rfl, rfl, rfl⟩, trivial⟩, fun Lr => ?_⟩
              show WL _ _ _ _ _ _ _ ((3, .pointer (some ⟨b5, 0, none⟩)) :: (19, .bool false) :: Lr) _
              have B681 := ((((h5.keep u4 (show ¬ (T b5) by first | omega | assumption)).keep u19 (fun h => h)).keep u22 (show ¬ (b5 = bk16) by first | omega | assumption)).keep hW (fun h => h))
              refine t_load Try.isAgg3 rfl rfl rfl (B681.get rfl) ?_
              refine t_nil' ?_
              exact fun a ha => ⟨rfl, _, (fun v' h => by cases h; rfl), ha, hW⟩
            · -- 16
              intro D ρ w682 hcD hnD hdD hW
              have zhW := hW.size
              have E684 := E24.next hW (fun _ _ h => h.elim)
              refine ⟨[(19, .bool false), (31, .slice av vs.length cv), (32, .int .i64 (j : Int))], ⟨.inl ⟨2, some (.bool false), rfl, rfl, rfl⟩, .inl ⟨14, some (.slice av vs.length cv), rfl, rfl, rfl⟩, .inl ⟨15, some (.int .i64 (j : Int)), rfl, rfl, rfl⟩, trivial⟩, fun Lr => ?_⟩
              show WL _ _ _ _ _ _ _ ((19, .bool false) :: (31, .slice av vs.length cv) :: (32, .int .i64 (j : Int)) :: Lr) _
              have D685 := (((D14.keep u19 (fun _ _ h => h)).keep u22 (fun i hi => show ¬ (i = bk16) by omega)).keep hW (fun _ _ h => h))
              have i686 : j < vs.length := (by omega)
              refine t_index (j := j) Try.underlying34 Try.sizeOf48 rfl rfl rfl rfl (D685.vsl.addr (by omega)) rfl i686 ?_
              refine t_nil' ?_
              exact fun a ha => ⟨rfl, _, (fun v' h => by cases h; rfl), ha, hW⟩
            · exact fun D ρ w hcD hnD hdD hW => ⟨[(19, .bool false), (33, .pointer (some ⟨bv, ov + j * 5, none⟩))], ⟨.inl ⟨2, some (.bool false), rfl, rfl, rfl⟩, .inl ⟨16, some (.pointer (some ⟨bv, ov + j * 5, none⟩)), rfl, rfl, rfl⟩, trivial⟩, fun Lr => t_field Try.underlying48 rfl Try.sizeOf3 (ov + j * 5 + 4) rfl rfl rfl rfl (t_nil' fun a ha => ⟨rfl, _, (fun v' h => by cases h; rfl), ha, hW⟩)⟩
            · -- 18
              intro D ρ w687 hcD hnD hdD hW
              have zhW := hW.size
              have E689 := E24.next hW (fun _ _ h => h.elim)
              refine ⟨[(19, .bool false), (34, .pointer (some ⟨bv, ov + j * 5 + 4, none⟩))], ⟨.inl ⟨2, some (.bool false), rfl, rfl, rfl⟩, .inl ⟨17, some (.pointer (some ⟨bv, ov + j * 5 + 4, none⟩)), rfl, rfl, rfl⟩, trivial⟩, fun Lr => ?_⟩
              show WL _ _ _ _ _ _ _ ((19, .bool false) :: (34, .pointer (some ⟨bv, ov + j * 5 + 4, none⟩)) :: Lr) _
              have D690 := (((D14.keep u19 (fun _ _ h => h)).keep u22 (fun i hi => show ¬ (i = bk16) by omega)).keep hW (fun _ _ h => h))
              refine t_load Try.isAgg3 rfl rfl rfl ((D690.vsl.at_ j (by omega)) 4 _ rfl) ?_
              refine t_nil' ?_
              exact fun a ha => ⟨rfl, _, (fun v' h => by cases h; rfl), ha, hW⟩
            · -- 19
              intro D ρ w691 hcD hnD hdD hW
              have zhW := hW.size
              have E693 := E24.next hW (fun _ _ h => h.elim)
              refine ⟨[(19, .bool false), (27, .int .i64 ((nth vs i).v.wid)), (35, .int .i64 ((nth vs j).v.wid))], ⟨.inl ⟨2, some (.bool false), rfl, rfl, rfl⟩, .inl ⟨10, some (.int .i64 ((nth vs i).v.wid)), rfl, rfl, rfl⟩, .inl ⟨18, some (.int .i64 ((nth vs j).v.wid)), rfl, rfl, rfl⟩, trivial⟩, fun Lr => ?_⟩
              show WL _ _ _ _ _ _ _ ((19, .bool false) :: (27, .int .i64 ((nth vs i).v.wid)) :: (35, .int .i64 ((nth vs j).v.wid)) :: Lr) _
              refine t_ari rfl rfl rfl rfl rfl (by omega) ?_
              refine t_nil' ?_
              exact fun a ha => ⟨rfl, _, (fun v' h => by cases h; rfl), ha, hW⟩
            · exact fun D ρ w hcD hnD hdD hW => ⟨[(6, .pointer (some ⟨bk16, 0, none⟩)), (19, .bool false)], ⟨.inr ⟨rfl, rfl⟩, .inl ⟨2, some (.bool false), rfl, rfl, rfl⟩, trivial⟩, fun Lr => t_field Try.underlying72 rfl Try.sizeOf3 (2) rfl rfl rfl rfl (t_nil' fun a ha => ⟨rfl, _, (fun v' h => by cases h; rfl), ha, hW⟩)⟩
            · -- 21
              intro D ρ w694 hcD hnD hdD hW
              have zhW := hW.size
              have E696 := E24.next hW (fun _ _ h => h.elim)
              refine ⟨[(19, .bool false), (37, .pointer (some ⟨bk16, 2, none⟩))], ⟨.inl ⟨2, some (.bool false), rfl, rfl, rfl⟩, .inl ⟨20, some (.pointer (some ⟨bk16, 2, none⟩)), rfl, rfl, rfl⟩, trivial⟩, fun Lr => ?_⟩
              show WL _ _ _ _ _ _ _ ((19, .bool false) :: (37, .pointer (some ⟨bk16, 2, none⟩)) :: Lr) _
              have B697 := (B23.keep hW (fun h => h))
              refine t_load Try.isAgg3 rfl rfl rfl (B697.get rfl) ?_
              refine t_nil' ?_
              exact fun a ha => ⟨rfl, _, (fun v' h => by cases h; rfl), ha, hW⟩
            · exact fun D ρ w hcD hnD hdD hW => ⟨[(19, .bool false), (36, .int .i64 ((nth vs i).v.wid + ((nth vs j).v.wid))), (38, .int .i64 ((nth ns k).wid))], ⟨.inl ⟨2, some (.bool false), rfl, rfl, rfl⟩, .inl ⟨19, some (.int .i64 ((nth vs i).v.wid + ((nth vs j).v.wid))), rfl, rfl, rfl⟩, .inl ⟨21, some (.int .i64 ((nth ns k).wid)), rfl, rfl, rfl⟩, trivial⟩, fun Lr => t_cmp rfl rfl rfl rfl rfl (t_nil' fun a ha => ⟨rfl, _, (fun v' h => by cases h; rfl), ha, hW⟩)⟩
            · exact fun D ρ w hcD hnD hdD hW => ⟨[(19, .bool false), (39, .bool (decide ((nth ns k).wid < ((nth vs i).v.wid + ((nth vs j).v.wid)))))], ⟨.inl ⟨2, some (.bool false), rfl, rfl, rfl⟩, .inl ⟨22, some (.bool (decide ((nth ns k).wid < ((nth vs i).v.wid + ((nth vs j).v.wid))))), rfl, rfl, rfl⟩, trivial⟩, fun Lr => t_pick_f rfl rfl rfl rfl (t_nil' fun a ha => ⟨rfl, _, (fun v' h => by cases h; rfl), ha, hW⟩)⟩
            · exact fun D ρ w hcD hnD hdD hW => ⟨[(40, .bool (decide ((nth ns k).wid < ((nth vs i).v.wid + ((nth vs j).v.wid)))))], ⟨.inl ⟨23, some (.bool (decide ((nth ns k).wid < ((nth vs i).v.wid + ((nth vs j).v.wid))))), rfl, rfl, rfl⟩, trivial⟩, fun Lr => t_move rfl rfl rfl (t_samehd (v := .bool true) (by simp [g41]) (t_nil' fun a ha => ⟨rfl, _, (fun v' h => by cases h; rfl), ha, hW⟩))⟩
            · -- 25
              intro D ρ w698 hcD hnD hdD hW
              have zhW := hW.size
              have E700 := E24.next hW (fun _ _ h => h.elim)
              refine ⟨[(1, .pointer (some ⟨b3, 0, none⟩)), (41, .bool true)], ⟨.inr ⟨rfl, rfl⟩, .inl ⟨24, some (.bool true), rfl, rfl, rfl⟩, trivial⟩, fun Lr => ?_⟩
              show WL _ _ _ _ _ _ _ ((1, .pointer (some ⟨b3, 0, none⟩)) :: (41, .bool true) :: Lr) _
              have B701 := ((((h3.keep u4 (show ¬ (T b3) by first | omega | assumption)).keep u19 (fun h => h)).keep u22 (show ¬ (b3 = bk16) by first | omega | assumption)).keep hW (fun h => h))
              refine t_load Try.isAgg124 rfl rfl rfl (B701.get rfl) ?_
              refine t_nil' ?_
              exact fun a ha => ⟨rfl, _, (fun v' h => by cases h; rfl), ha, hW⟩
            · exact fun D ρ w hcD hnD hdD hW => ⟨[(41, .bool true), (42, .pointer (some ⟨t, 0, none⟩))], ⟨.inl ⟨24, some (.bool true), rfl, rfl, rfl⟩, .inl ⟨25, some (.pointer (some ⟨t, 0, none⟩)), rfl, rfl, rfl⟩, trivial⟩, fun Lr => t_nilchk rfl rfl rfl (t_nil' fun a ha => ⟨rfl, _, (fun v' h => by cases h; rfl), ha, hW⟩)⟩
            · exact fun D ρ w hcD hnD hdD hW => ⟨[(41, .bool true), (43, .pointer (some ⟨t, 0, none⟩))], ⟨.inl ⟨24, some (.bool true), rfl, rfl, rfl⟩, .inl ⟨26, some (.pointer (some ⟨t, 0, none⟩)), rfl, rfl, rfl⟩, trivial⟩, fun Lr => t_field Try.underlying160 rfl Try.sizeOf158 (2) rfl rfl rfl rfl (t_nil' fun a ha => ⟨rfl, _, (fun v' h => by cases h; rfl), ha, hW⟩)⟩
            · -- 28
              intro D ρ w702 hcD hnD hdD hW
              have zhW := hW.size
              have E704 := E24.next hW (fun _ _ h => h.elim)
              refine ⟨[(41, .bool true), (44, .pointer (some ⟨t, 2, none⟩))], ⟨.inl ⟨24, some (.bool true), rfl, rfl, rfl⟩, .inl ⟨27, some (.pointer (some ⟨t, 2, none⟩)), rfl, rfl, rfl⟩, trivial⟩, fun Lr => ?_⟩
              show WL _ _ _ _ _ _ _ ((41, .bool true) :: (44, .pointer (some ⟨t, 2, none⟩)) :: Lr) _
              have B705 := ((((htb.keep u4 (show ¬ (T t) by first | omega | assumption)).keep u19 (fun h => h)).keep u22 (show ¬ (t = bk16) by first | omega | assumption)).keep hW (fun h => h))
              refine t_load Try.isAgg158 rfl rfl rfl (B705.get rfl) ?_
              refine t_nil' ?_
              exact fun a ha => ⟨rfl, _, (fun v' h => by cases h; rfl), ha, hW⟩
            · -- 29
              intro D ρ w706 hcD hnD hdD hW
              have zhW := hW.size
              have E708 := E24.next hW (fun _ _ h => h.elim)
              refine ⟨[(2, .pointer (some ⟨b4, 0, none⟩)), (41, .bool true)], ⟨.inr ⟨rfl, rfl⟩, .inl ⟨24, some (.bool true), rfl, rfl, rfl⟩, trivial⟩, fun Lr => ?_⟩
              show WL _ _ _ _ _ _ _ ((2, .pointer (some ⟨b4, 0, none⟩)) :: (41, .bool true) :: Lr) _
              have B709 := ((((h4.keep u4 (show ¬ (T b4) by first | omega | assumption)).keep u19 (fun h => h)).keep u22 (show ¬ (b4 = bk16) by first | omega | assumption)).keep hW (fun h => h))
              refine t_load Try.isAgg3 rfl rfl rfl (B709.get rfl) ?_
              refine t_nil' ?_
              exact fun a ha => ⟨rfl, _, (fun v' h => by cases h; rfl), ha, hW⟩
            · -- 30
              intro D ρ w710 hcD hnD hdD hW
              have zhW := hW.size
              have E712 := E24.next hW (fun _ _ h => h.elim)
              refine ⟨[(41, .bool true), (45, .slice ar rows.length cr), (46, .int .i64 (i : Int))], ⟨.inl ⟨24, some (.bool true), rfl, rfl, rfl⟩, .inl ⟨28, some (.slice ar rows.length cr), rfl, rfl, rfl⟩, .inl ⟨29, some (.int .i64 (i : Int)), rfl, rfl, rfl⟩, trivial⟩, fun Lr => ?_⟩
              show WL _ _ _ _ _ _ _ ((41, .bool true) :: (45, .slice ar rows.length cr) :: (46, .int .i64 (i : Int)) :: Lr) _
              have D713 := (((D14.keep u19 (fun _ _ h => h)).keep u22 (fun i hi => show ¬ (i = bk16) by omega)).keep hW (fun _ _ h => h))
              have i714 : i < rows.length := (by omega)
              refine t_index (j := i) Try.underlying158 Try.sizeOf157 rfl rfl rfl rfl (D713.ssl.addr (by omega)) rfl i714 ?_
              refine t_nil' ?_
              exact fun a ha => ⟨rfl, _, (fun v' h => by cases h; rfl), ha, hW⟩
            · -- 31
              intro D ρ w715 hcD hnD hdD hW
              have zhW := hW.size
              have E717 := E24.next hW (fun _ _ h => h.elim)
              refine ⟨[(41, .bool true), (47, .pointer (some ⟨br, 0 + i * 1, none⟩))], ⟨.inl ⟨24, some (.bool true), rfl, rfl, rfl⟩, .inl ⟨30, some (.pointer (some ⟨br, 0 + i * 1, none⟩)), rfl, rfl, rfl⟩, trivial⟩, fun Lr => ?_⟩
              show WL _ _ _ _ _ _ _ ((41, .bool true) :: (47, .pointer (some ⟨br, 0 + i * 1, none⟩)) :: Lr) _
              have D718 := (((D14.keep u19 (fun _ _ h => h)).keep u22 (fun i hi => show ¬ (i = bk16) by omega)).keep hW (fun _ _ h => h))
              refine t_load Try.isAgg157 rfl rfl rfl ((D718.ssl.at_ i (by omega)) 0 _ rfl) ?_
              refine t_nil' ?_
              exact fun a ha => ⟨rfl, _, (fun v' h => by cases h; rfl), ha, hW⟩
            · exact fun D ρ w hcD hnD hdD hW => ⟨[(5, .int .i64 (k : Int)), (41, .bool true)], ⟨.inr ⟨rfl, rfl⟩, .inl ⟨24, some (.bool true), rfl, rfl, rfl⟩, trivial⟩, fun Lr => t_move rfl rfl rfl (t_nil' fun a ha => ⟨rfl, _, (fun v' h => by cases h; rfl), ha, hW⟩)⟩
            · -- 33
              intro D ρ w719 hcD hnD hdD hW
              have zhW := hW.size
              have E721 := E24.next hW (fun _ _ h => h.elim)
              refine ⟨[(41, .bool true), (48, .slice ((nth rows i).ao) (((nth rows i).ss).length) ((nth rows i).cap)), (49, .int .i64 (k : Int))], ⟨.inl ⟨24, some (.bool true), rfl, rfl, rfl⟩, .inl ⟨31, some (.slice ((nth rows i).ao) (((nth rows i).ss).length) ((nth rows i).cap)), rfl, rfl, rfl⟩, .inl ⟨32, some (.int .i64 (k : Int)), rfl, rfl, rfl⟩, trivial⟩, fun Lr => ?_⟩
              show WL _ _ _ _ _ _ _ ((41, .bool true) :: (48, .slice ((nth rows i).ao) (((nth rows i).ss).length) ((nth rows i).cap)) :: (49, .int .i64 (k : Int)) :: Lr) _
              have D722 := (((D14.keep u19 (fun _ _ h => h)).keep u22 (fun i hi => show ¬ (i = bk16) by omega)).keep hW (fun _ _ h => h))
              have i723 : k < ((nth rows i).ss).length := (by omega)
              refine t_index (j := k) Try.underlying157 Try.sizeOf141 rfl rfl rfl rfl ((D722.rsl (nth rows i) (nth_mem (by omega))).addr (by omega)) rfl i723 ?_
              refine t_nil' ?_
              exact fun a ha => ⟨rfl, _, (fun v' h => by cases h; rfl), ha, hW⟩
            · exact fun D ρ w hcD hnD hdD hW => ⟨[(41, .bool true), (50, .pointer (some ⟨(nth rows i).g, 0 + k * 5, none⟩))], ⟨.inl ⟨24, some (.bool true), rfl, rfl, rfl⟩, .inl ⟨33, some (.pointer (some ⟨(nth rows i).g, 0 + k * 5, none⟩)), rfl, rfl, rfl⟩, trivial⟩, fun Lr => t_field Try.underlying141 rfl Try.sizeOf4 (0 + k * 5 + 4) rfl rfl rfl rfl (t_nil' fun a ha => ⟨rfl, _, (fun v' h => by cases h; rfl), ha, hW⟩)⟩
            · -- 35
              intro D ρ w724 hcD hnD hdD hW
              have zhW := hW.size
              have E726 := E24.next hW (fun _ _ h => h.elim)
              refine ⟨[(41, .bool true), (51, .pointer (some ⟨(nth rows i).g, 0 + k * 5 + 4, none⟩))], ⟨.inl ⟨24, some (.bool true), rfl, rfl, rfl⟩, .inl ⟨34, some (.pointer (some ⟨(nth rows i).g, 0 + k * 5 + 4, none⟩)), rfl, rfl, rfl⟩, trivial⟩, fun Lr => ?_⟩
              show WL _ _ _ _ _ _ _ ((41, .bool true) :: (51, .pointer (some ⟨(nth rows i).g, 0 + k * 5 + 4, none⟩)) :: Lr) _
              have D727 := (((D14.keep u19 (fun _ _ h => h)).keep u22 (fun i hi => show ¬ (i = bk16) by omega)).keep hW (fun _ _ h => h))
              refine t_load Try.isAgg4 rfl rfl rfl (((D727.rsl (nth rows i) (nth_mem (by omega))).at_ k (by omega)) 4 _ rfl) ?_
              refine t_nil' ?_
              exact fun a ha => ⟨rfl, _, (fun v' h => by cases h; rfl), ha, hW⟩
            · exact fun D ρ w hcD hnD hdD hW => ⟨[(41, .bool true), (52, .bool ((nth ((nth rows i).ss) k).there))], ⟨.inl ⟨24, some (.bool true), rfl, rfl, rfl⟩, .inl ⟨35, some (.bool ((nth ((nth rows i).ss) k).there)), rfl, rfl, rfl⟩, trivial⟩, fun Lr => t_pick_t rfl rfl rfl rfl (t_nil' fun a ha => ⟨rfl, _, (fun v' h => by cases h; rfl), ha, hW⟩)⟩
            · exact fun D ρ w hcD hnD hdD hW => ⟨[(53, .bool ((nth ((nth rows i).ss) k).there))], ⟨.inl ⟨36, some (.bool ((nth ((nth rows i).ss) k).there)), rfl, rfl, rfl⟩, trivial⟩, fun Lr => t_move rfl rfl rfl (t_samehd (v := .bool true) (by simp [g54]) (t_nil' fun a ha => ⟨rfl, _, (fun v' h => by cases h; rfl), ha, hW⟩))⟩
            · -- 38
              intro D ρ w728 hcD hnD hdD hW
              have zhW := hW.size
              have E730 := E24.next hW (fun _ _ h => h.elim)
              refine ⟨[(1, .pointer (some ⟨b3, 0, none⟩)), (54, .bool true)], ⟨.inr ⟨rfl, rfl⟩, .inl ⟨37, some (.bool true), rfl, rfl, rfl⟩, trivial⟩, fun Lr => ?_⟩
              show WL _ _ _ _ _ _ _ ((1, .pointer (some ⟨b3, 0, none⟩)) :: (54, .bool true) :: Lr) _
              have B731 := ((((h3.keep u4 (show ¬ (T b3) by first | omega | assumption)).keep u19 (fun h => h)).keep u22 (show ¬ (b3 = bk16) by first | omega | assumption)).keep hW (fun h => h))
              refine t_load Try.isAgg124 rfl rfl rfl (B731.get rfl) ?_
              refine t_nil' ?_
              exact fun a ha => ⟨rfl, _, (fun v' h => by cases h; rfl), ha, hW⟩
            · exact fun D ρ w hcD hnD hdD hW => ⟨[(54, .bool true), (55, .pointer (some ⟨t, 0, none⟩))], ⟨.inl ⟨37, some (.bool true), rfl, rfl, rfl⟩, .inl ⟨38, some (.pointer (some ⟨t, 0, none⟩)), rfl, rfl, rfl⟩, trivial⟩, fun Lr => t_nilchk rfl rfl rfl (t_nil' fun a ha => ⟨rfl, _, (fun v' h => by cases h; rfl), ha, hW⟩)⟩
            · exact fun D ρ w hcD hnD hdD hW => ⟨[(54, .bool true), (56, .pointer (some ⟨t, 0, none⟩))], ⟨.inl ⟨37, some (.bool true), rfl, rfl, rfl⟩, .inl ⟨39, some (.pointer (some ⟨t, 0, none⟩)), rfl, rfl, rfl⟩, trivial⟩, fun Lr => t_field Try.underlying160 rfl Try.sizeOf158 (2) rfl rfl rfl rfl (t_nil' fun a ha => ⟨rfl, _, (fun v' h => by cases h; rfl), ha, hW⟩)⟩
            · -- 41
              intro D ρ w732 hcD hnD hdD hW
              have zhW := hW.size
              have E734 := E24.next hW (fun _ _ h => h.elim)
              refine ⟨[(54, .bool true), (57, .pointer (some ⟨t, 2, none⟩))], ⟨.inl ⟨37, some (.bool true), rfl, rfl, rfl⟩, .inl ⟨40, some (.pointer (some ⟨t, 2, none⟩)), rfl, rfl, rfl⟩, trivial⟩, fun Lr => ?_⟩
              show WL _ _ _ _ _ _ _ ((54, .bool true) :: (57, .pointer (some ⟨t, 2, none⟩)) :: Lr) _
              have B735 := ((((htb.keep u4 (show ¬ (T t) by first | omega | assumption)).keep u19 (fun h => h)).keep u22 (show ¬ (t = bk16) by first | omega | assumption)).keep hW (fun h => h))
              refine t_load Try.isAgg158 rfl rfl rfl (B735.get rfl) ?_
              refine t_nil' ?_
              exact fun a ha => ⟨rfl, _, (fun v' h => by cases h; rfl), ha, hW⟩
            · -- 42
              intro D ρ w736 hcD hnD hdD hW
              have zhW := hW.size
              have E738 := E24.next hW (fun _ _ h => h.elim)
              refine ⟨[(3, .pointer (some ⟨b5, 0, none⟩)), (54, .bool true)], ⟨.inr ⟨rfl, rfl⟩, .inl ⟨37, some (.bool true), rfl, rfl, rfl⟩, trivial⟩, fun Lr => ?_⟩
              show WL _ _ _ _ _ _ _ ((3, .pointer (some ⟨b5, 0, none⟩)) :: (54, .bool true) :: Lr) _
              have B739 := ((((h5.keep u4 (show ¬ (T b5) by first | omega | assumption)).keep u19 (fun h => h)).keep u22 (show ¬ (b5 = bk16) by first | omega | assumption)).keep hW (fun h => h))
              refine t_load Try.isAgg3 rfl rfl rfl (B739.get rfl) ?_
              refine t_nil' ?_
              exact fun a ha => ⟨rfl, _, (fun v' h => by cases h; rfl), ha, hW⟩
            · -- 43
              intro D ρ w740 hcD hnD hdD hW
              have zhW := hW.size
              have E742 := E24.next hW (fun _ _ h => h.elim)
              refine ⟨[(54, .bool true), (58, .slice ar rows.length cr), (59, .int .i64 (j : Int))], ⟨.inl ⟨37, some (.bool true), rfl, rfl, rfl⟩, .inl ⟨41, some (.slice ar rows.length cr), rfl, rfl, rfl⟩, .inl ⟨42, some (.int .i64 (j : Int)), rfl, rfl, rfl⟩, trivial⟩, fun Lr => ?_⟩
              show WL _ _ _ _ _ _ _ ((54, .bool true) :: (58, .slice ar rows.length cr) :: (59, .int .i64 (j : Int)) :: Lr) _
              have D743 := (((D14.keep u19 (fun _ _ h => h)).keep u22 (fun i hi => show ¬ (i = bk16) by omega)).keep hW (fun _ _ h => h))
              have i744 : j < rows.length := (by omega)
              refine t_index (j := j) Try.underlying158 Try.sizeOf157 rfl rfl rfl rfl (D743.ssl.addr (by omega)) rfl i744 ?_
              refine t_nil' ?_
              exact fun a ha => ⟨rfl, _, (fun v' h => by cases h; rfl), ha, hW⟩
            · -- 44
              intro D ρ w745 hcD hnD hdD hW
              have zhW := hW.size
              have E747 := E24.next hW (fun _ _ h => h.elim)
              refine ⟨[(54, .bool true), (60, .pointer (some ⟨br, 0 + j * 1, none⟩))], ⟨.inl ⟨37, some (.bool true), rfl, rfl, rfl⟩, .inl ⟨43, some (.pointer (some ⟨br, 0 + j * 1, none⟩)), rfl, rfl, rfl⟩, trivial⟩, fun Lr => ?_⟩
              show WL _ _ _ _ _ _ _ ((54, .bool true) :: (60, .pointer (some ⟨br, 0 + j * 1, none⟩)) :: Lr) _
              have D748 := (((D14.keep u19 (fun _ _ h => h)).keep u22 (fun i hi => show ¬ (i = bk16) by omega)).keep hW (fun _ _ h => h))
              refine t_load Try.isAgg157 rfl rfl rfl ((D748.ssl.at_ j (by omega)) 0 _ rfl) ?_
              refine t_nil' ?_
              exact fun a ha => ⟨rfl, _, (fun v' h => by cases h; rfl), ha, hW⟩
            · exact fun D ρ w hcD hnD hdD hW => ⟨[(5, .int .i64 (k : Int)), (54, .bool true)], ⟨.inr ⟨rfl, rfl⟩, .inl ⟨37, some (.bool true), rfl, rfl, rfl⟩, trivial⟩, fun Lr => t_move rfl rfl rfl (t_nil' fun a ha => ⟨rfl, _, (fun v' h => by cases h; rfl), ha, hW⟩)⟩
            · -- 46
              intro D ρ w749 hcD hnD hdD hW
              have zhW := hW.size
              have E751 := E24.next hW (fun _ _ h => h.elim)
              refine ⟨[(54, .bool true), (61, .slice ((nth rows j).ao) (((nth rows j).ss).length) ((nth rows j).cap)), (62, .int .i64 (k : Int))], ⟨.inl ⟨37, some (.bool true), rfl, rfl, rfl⟩, .inl ⟨44, some (.slice ((nth rows j).ao) (((nth rows j).ss).length) ((nth rows j).cap)), rfl, rfl, rfl⟩, .inl ⟨45, some (.int .i64 (k : Int)), rfl, rfl, rfl⟩, trivial⟩, fun Lr => ?_⟩
              show WL _ _ _ _ _ _ _ ((54, .bool true) :: (61, .slice ((nth rows j).ao) (((nth rows j).ss).length) ((nth rows j).cap)) :: (62, .int .i64 (k : Int)) :: Lr) _
              have D752 := (((D14.keep u19 (fun _ _ h => h)).keep u22 (fun i hi => show ¬ (i = bk16) by omega)).keep hW (fun _ _ h => h))
              have i753 : k < ((nth rows j).ss).length := (by omega)
              refine t_index (j := k) Try.underlying157 Try.sizeOf141 rfl rfl rfl rfl ((D752.rsl (nth rows j) (nth_mem (by omega))).addr (by omega)) rfl i753 ?_
              refine t_nil' ?_
              exact fun a ha => ⟨rfl, _, (fun v' h => by cases h; rfl), ha, hW⟩
            · exact fun D ρ w hcD hnD hdD hW => ⟨[(54, .bool true), (63, .pointer (some ⟨(nth rows j).g, 0 + k * 5, none⟩))], ⟨.inl ⟨37, some (.bool true), rfl, rfl, rfl⟩, .inl ⟨46, some (.pointer (some ⟨(nth rows j).g, 0 + k * 5, none⟩)), rfl, rfl, rfl⟩, trivial⟩, fun Lr => t_field Try.underlying141 rfl Try.sizeOf4 (0 + k * 5 + 4) rfl rfl rfl rfl (t_nil' fun a ha => ⟨rfl, _, (fun v' h => by cases h; rfl), ha, hW⟩)⟩
            · -- 48
              intro D ρ w754 hcD hnD hdD hW
              have zhW := hW.size
              have E756 := E24.next hW (fun _ _ h => h.elim)
              refine ⟨[(54, .bool true), (64, .pointer (some ⟨(nth rows j).g, 0 + k * 5 + 4, none⟩))], ⟨.inl ⟨37, some (.bool true), rfl, rfl, rfl⟩, .inl ⟨47, some (.pointer (some ⟨(nth rows j).g, 0 + k * 5 + 4, none⟩)), rfl, rfl, rfl⟩, trivial⟩, fun Lr => ?_⟩
              show WL _ _ _ _ _ _ _ ((54, .bool true) :: (64, .pointer (some ⟨(nth rows j).g, 0 + k * 5 + 4, none⟩)) :: Lr) _
              have D757 := (((D14.keep u19 (fun _ _ h => h)).keep u22 (fun i hi => show ¬ (i = bk16) by omega)).keep hW (fun _ _ h => h))
              refine t_load Try.isAgg4 rfl rfl rfl (((D757.rsl (nth rows j) (nth_mem (by omega))).at_ k (by omega)) 4 _ rfl) ?_
              refine t_nil' ?_
              exact fun a ha => ⟨rfl, _, (fun v' h => by cases h; rfl), ha, hW⟩
            · exact fun D ρ w hcD hnD hdD hW => ⟨[(54, .bool true), (65, .bool ((nth ((nth rows j).ss) k).there))], ⟨.inl ⟨37, some (.bool true), rfl, rfl, rfl⟩, .inl ⟨48, some (.bool ((nth ((nth rows j).ss) k).there)), rfl, rfl, rfl⟩, trivial⟩, fun Lr => t_pick_t rfl rfl rfl rfl (t_nil' fun a ha => ⟨rfl, _, (fun v' h => by cases h; rfl), ha, hW⟩)⟩
            · exact fun D ρ w hcD hnD hdD hW => ⟨[(66, .bool ((nth ((nth rows j).ss) k).there))], ⟨.inl ⟨49, some (.bool ((nth ((nth rows j).ss) k).there)), rfl, rfl, rfl⟩, trivial⟩, fun Lr => t_move rfl rfl rfl (t_samehd (v := .bool false) (by simp [g67]) (t_nil' fun a ha => ⟨rfl, _, (fun v' h => by cases h; rfl), ha, hW⟩))⟩
            · exact fun D ρ w hcD hnD hdD hW => ⟨[(0, .func (.yield l) #[] #[]), (67, .bool false)], ⟨.inr ⟨rfl, rfl⟩, .inl ⟨50, some (.bool false), rfl, rfl, rfl⟩, trivial⟩, fun Lr => t_skip rfl rfl rfl (t_nil' fun a ha => ⟨rfl, _, (fun v' h => by cases h; rfl), ha, hW⟩)⟩
            · exact fun D ρ w hcD hnD hdD hW => ⟨[(5, .int .i64 (k : Int)), (67, .bool false)], ⟨.inr ⟨rfl, rfl⟩, .inl ⟨50, some (.bool false), rfl, rfl, rfl⟩, trivial⟩, fun Lr => t_skip rfl rfl rfl (t_nil' fun a ha => ⟨rfl, _, (fun v' h => by cases h; rfl), ha, hW⟩)⟩
            · exact fun D ρ w hcD hnD hdD hW => ⟨[(67, .bool false), (68, undef), (69, undef)], ⟨.inl ⟨50, some (.bool false), rfl, rfl, rfl⟩, .inl ⟨51, some (undef), rfl, rfl, rfl⟩, .inl ⟨52, some (undef), rfl, rfl, rfl⟩, trivial⟩, fun Lr => t_skip rfl rfl rfl (t_nil' fun a ha => ⟨rfl, _, (fun v' h => by cases h; rfl), ha, hW⟩)⟩
            · exact fun D ρ w hcD hnD hdD hW => ⟨[(67, .bool false), (70, undef)], ⟨.inl ⟨50, some (.bool false), rfl, rfl, rfl⟩, .inl ⟨53, some (undef), rfl, rfl, rfl⟩, trivial⟩, fun Lr => t_skip rfl rfl rfl (t_nil' fun a ha => ⟨rfl, _, (fun v' h => by cases h; rfl), ha, hW⟩)⟩
            · exact fun D ρ w hcD hnD hdD hW => ⟨[(67, .bool false), (71, undef)], ⟨.inl ⟨50, some (.bool false), rfl, rfl, rfl⟩, .inl ⟨54, some (undef), rfl, rfl, rfl⟩, trivial⟩, fun Lr => t_pick_f rfl rfl rfl rfl (t_nil' fun a ha => ⟨rfl, _, (fun v' h => by cases h; rfl), ha, hW⟩)⟩
            intro ρ w758 hW
            have u759 : Upd (fun _ => False) w21 w758 := hW
            have zu759 := u759.size
            have E760 := E24.next u759 (fun _ _ h => h.elim)
            refine QK.weak [(0, .func (.yield l) #[] #[]), (1, .pointer (some ⟨b3, 0, none⟩)), (2, .pointer (some ⟨b4, 0, none⟩)), (3, .pointer (some ⟨b5, 0, none⟩)), (5, .int .i64 (k : Int)), (6, .pointer (some ⟨bk16, 0, none⟩)), (10, .slice an ns.length cn), (11, .int .i64 (ns.length : Int)), (12, .int .i64 (k : Int)), (13, .bool (decide ((k : Int) < (ns.length : Int)))), (14, .int .i64 (k : Int)), (15, .pointer (some ⟨bn, on + k * 4, none⟩)), (16, .agg #[.int .i64 ((nth ns k).frm), .int .i64 ((nth ns k).to), .int .i64 ((nth ns k).wid), .bool ((nth ns k).single)]), (17, .pointer (some ⟨bk16, 3, none⟩)), (18, .bool ((nth ns k).single)), (19, .bool false), (20, .pointer (some ⟨t, 0, none⟩)), (21, .pointer (some ⟨t, 0, none⟩)), (22, .pointer (some ⟨t, 0, none⟩)), (23, .slice av vs.length cv), (24, .int .i64 (i : Int)), (25, .pointer (some ⟨bv, ov + i * 5, none⟩)), (26, .pointer (some ⟨bv, ov + i * 5 + 4, none⟩)), (27, .int .i64 ((nth vs i).v.wid)), (28, .pointer (some ⟨t, 0, none⟩)), (29, .pointer (some ⟨t, 0, none⟩)), (30, .pointer (some ⟨t, 0, none⟩)), (31, .slice av vs.length cv), (32, .int .i64 (j : Int)), (33, .pointer (some ⟨bv, ov + j * 5, none⟩)), (34, .pointer (some ⟨bv, ov + j * 5 + 4, none⟩)), (35, .int .i64 ((nth vs j).v.wid)), (36, .int .i64 ((nth vs i).v.wid + ((nth vs j).v.wid))), (37, .pointer (some ⟨bk16, 2, none⟩)), (38, .int .i64 ((nth ns k).wid)), (39, .bool (decide ((nth ns k).wid < ((nth vs i).v.wid + ((nth vs j).v.wid))))), (40, .bool (decide ((nth ns k).wid < ((nth vs i).v.wid + ((nth vs j).v.wid))))), (41, .bool true), (42, .pointer (some ⟨t, 0, none⟩)), (43, .pointer (some ⟨t, 0, none⟩)), (44, .pointer (some ⟨t, 2, none⟩)), (45, .slice ar rows.length cr), (46, .int .i64 (i : Int)), (47, .pointer (some ⟨br, 0 + i * 1, none⟩)), (48, .slice ((nth rows i).ao) (((nth rows i).ss).length) ((nth rows i).cap)), (49, .int .i64 (k : Int)), (50, .pointer (some ⟨(nth rows i).g, 0 + k * 5, none⟩)), (51, .pointer (some ⟨(nth rows i).g, 0 + k * 5 + 4, none⟩)), (52, .bool ((nth ((nth rows i).ss) k).there)), (53, .bool ((nth ((nth rows i).ss) k).there)), (54, .bool true), (55, .pointer (some ⟨t, 0, none⟩)), (56, .pointer (some ⟨t, 0, none⟩)), (57, .pointer (some ⟨t, 2, none⟩)), (58, .slice ar rows.length cr), (59, .int .i64 (j : Int)), (60, .pointer (some ⟨br, 0 + j * 1, none⟩)), (61, .slice ((nth rows j).ao) (((nth rows j).ss).length) ((nth rows j).cap)), (62, .int .i64 (k : Int)), (63, .pointer (some ⟨(nth rows j).g, 0 + k * 5, none⟩)), (64, .pointer (some ⟨(nth rows j).g, 0 + k * 5 + 4, none⟩)), (65, .bool ((nth ((nth rows j).ss) k).there)), (66, .bool ((nth ((nth rows j).ss) k).there)), (67, .bool false), (72, .bool false)] ⟨rfl, rfl, rfl, rfl, rfl, rfl, rfl, rfl, rfl, rfl, rfl, rfl, rfl, rfl, rfl, rfl, rfl, rfl, rfl, rfl, rfl, rfl, rfl, rfl, rfl, rfl, rfl, rfl, rfl, rfl, rfl, rfl, rfl, rfl, rfl, rfl, rfl, rfl, rfl, rfl, rfl, rfl, rfl, rfl, rfl, rfl, rfl, rfl, rfl, rfl, rfl, rfl, rfl, rfl, rfl, rfl, rfl, rfl, rfl, rfl, rfl, rfl, rfl, rfl, rfl, trivial⟩ ?_
            refine hK25 _ _ ?_
            refine c_cond_f rfl ?_
            refine c_skip ?_
            refine hK12 _ _ ?_
            refine c_region ?_
            refine t_ari rfl rfl rfl rfl rfl (by omega) ?_
            refine t_move rfl rfl rfl ?_
            refine t_nil' ?_
            exact hK2 (k + 1, pre) _ _ (by show ns.length - (k + 1) < ns.length - k; omega) ⟨rfl, rfl, rfl, rfl, rfl, rfl, rfl, trivial⟩ ⟨(((u4.next u19 (fun _ _ h => h.elim)).next u22 (fun i hi (h : i = bk16) => show T i by first | omega | assumption)).next u759 (fun _ _ h => h.elim)), (by omega), (by rw [filter_succ, if_neg (by simp [barB, g19, g67])]; simpa using hpre), (by show pre.length ≤ (k + 1); omega), (hJ _ _ _ none hJk (Ext.grownBy ((((Upd.refl (fun _ => False) _).next u19 (fun _ _ h => h.elim)).next u22 (fun i hi (h : i = bk16) => show False by first | omega | assumption)).next u759 (fun _ _ h => h.elim))) (fun r e => by cases e))⟩
        ·
          refine WC.weak [(0, .func (.yield l) #[] #[]), (1, .pointer (some ⟨b3, 0, none⟩)), (2, .pointer (some ⟨b4, 0, none⟩)), (3, .pointer (some ⟨b5, 0, none⟩)), (5, .int .i64 (k : Int)), (6, .pointer (some ⟨bk16, 0, none⟩)), (10, .slice an ns.length cn), (11, .int .i64 (ns.length : Int)), (12, .int .i64 (k : Int)), (13, .bool (decide ((k : Int) < (ns.length : Int)))), (14, .int .i64 (k : Int)), (15, .pointer (some ⟨bn, on + k * 4, none⟩)), (16, .agg #[.int .i64 ((nth ns k).frm), .int .i64 ((nth ns k).to), .int .i64 ((nth ns k).wid), .bool ((nth ns k).single)])] ⟨rfl, rfl, rfl, rfl, rfl, rfl, rfl, rfl, rfl, rfl, rfl, rfl, rfl, trivial⟩ ?_
          refine c_drawn followsS' 56 [some (17, some (.pointer (some ⟨bk16, 3, none⟩))), some (18, some (.bool ((nth ns k).single))), some (19, some (.bool false)), some (20, some (.pointer (some ⟨t, 0, none⟩))), some (21, some (.pointer (some ⟨t, 0, none⟩))), some (22, some (.pointer (some ⟨t, 0, none⟩))), some (23, some (.slice av vs.length cv)), some (24, some (.int .i64 (i : Int))), some (25, some (.pointer (some ⟨bv, ov + i * 5, none⟩))), some (26, some (.pointer (some ⟨bv, ov + i * 5 + 4, none⟩))), some (27, some (.int .i64 ((nth vs i).v.wid))), some (28, some (.pointer (some ⟨t, 0, none⟩))), some (29, some (.pointer (some ⟨t, 0, none⟩))), some (30, some (.pointer (some ⟨t, 0, none⟩))), some (31, some (.slice av vs.length cv)), some (32, some (.int .i64 (j : Int))), some (33, some (.pointer (some ⟨bv, ov + j * 5, none⟩))), some (34, some (.pointer (some ⟨bv, ov + j * 5 + 4, none⟩))), some (35, some (.int .i64 ((nth vs j).v.wid))), some (36, some (.int .i64 ((nth vs i).v.wid + ((nth vs j).v.wid)))), some (37, some (.pointer (some ⟨bk16, 2, none⟩))), some (38, some (.int .i64 ((nth ns k).wid))), some (39, some (.bool (decide ((nth ns k).wid < ((nth vs i).v.wid + ((nth vs j).v.wid)))))), some (40, some (.bool (decide ((nth ns k).wid < ((nth vs i).v.wid + ((nth vs j).v.wid)))))), some (41, some (.bool true)), some (42, some (.pointer (some ⟨t, 0, none⟩))), some (43, some (.pointer (some ⟨t, 0, none⟩))), some (44, some (.pointer (some ⟨t, 2, none⟩))), some (45, some (.slice ar rows.length cr)), some (46, some (.int .i64 (i : Int))), some (47, some (.pointer (some ⟨br, 0 + i * 1, none⟩))), some (48, some (.slice ((nth rows i).ao) (((nth rows i).ss).length) ((nth rows i).cap))), some (49, some (.int .i64 (k : Int))), some (50, some (.pointer (some ⟨(nth rows i).g, 0 + k * 5, none⟩))), some (51, some (.pointer (some ⟨(nth rows i).g, 0 + k * 5 + 4, none⟩))), some (52, some (.bool ((nth ((nth rows i).ss) k).there))), some (53, some (.bool ((nth ((nth rows i).ss) k).there))), some (54, some (.bool false)), some (55, some (undef)), some (56, some (undef)), some (57, some (undef)), some (58, some (undef)), some (59, some (undef)), some (60, some (undef)), some (61, some (undef)), some (62, some (undef)), some (63, some (undef)), some (64, some (undef)), some (65, some (undef)), some (66, some (.bool false)), some (67, some (.bool false)), some (68, some (undef)), some (69, some (undef)), some (70, some (undef)), some (71, some (undef)), some (72, some (.bool false))] [[], [0], [1], [2], [3, 2], [4, 2], [5, 2], [2], [6, 7, 2], [8, 2], [9, 2], [2], [11, 2], [12, 2], [13, 2], [2], [14, 15, 2], [16, 2], [17, 2], [10, 18, 2], [2], [20, 2], [19, 21, 2], [2, 22], [23, 2], [24], [25, 24], [26, 24], [27, 24], [24], [28, 29, 24], [30, 24], [24], [31, 32, 24], [33, 24], [34, 24], [24, 35], [36, 24], [37], [38, 37], [39, 37], [40, 37], [37], [41, 42, 37], [43, 37], [37], [44, 45, 37], [46, 37], [47, 37], [37, 48], [49, 37], [50], [50], [51, 52, 50, 50], [53, 50], [50, 54]] (fun _ _ w => Upd (fun _ => False) w21 w) rfl rfl rfl (by kernel_rfl) (by kernel_rfl) (Upd.drew _).to ⟨?_, ?_, ?_, ?_, ?_, ?_, ?_, ?_, ?_, ?_, ?_, ?_, ?_, ?_, ?_, ?_, ?_, ?_, ?_, ?_, ?_, ?_, ?_, ?_, ?_, ?_, ?_, ?_, ?_, ?_, ?_, ?_, ?_, ?_, ?_, ?_, ?_, ?_, ?_, ?_, ?_, ?_, ?_, ?_, ?_, ?_, ?_, ?_, ?_, ?_, ?_, ?_, ?_, ?_, ?_, ?_, trivial⟩ ?_
          · exact fun D ρ w hcD hnD hdD hW => ⟨[(6, .pointer (some ⟨bk16, 0, none⟩))], ⟨.inr ⟨rfl, rfl⟩, trivial⟩, fun Lr => t_field Try.underlying72 rfl Try.sizeOf4 (3) rfl rfl rfl rfl (t_nil' fun a ha => ⟨rfl, _, (fun v' h => by cases h; rfl), ha, hW⟩)⟩
          · -- 1
            intro D ρ w770 hcD hnD hdD hW
            have zhW := hW.size
            have E772 := E24.next hW (fun _ _ h => h.elim)
            refine ⟨[(17, .pointer (some ⟨bk16, 3, none⟩))], ⟨.inl ⟨0, some (.pointer (some ⟨bk16, 3, none⟩)), rfl, rfl, rfl⟩, trivial⟩, fun Lr => ?_⟩
            show WL _ _ _ _ _ _ _ ((17, .pointer (some ⟨bk16, 3, none⟩)) :: Lr) _
            have B773 := (B23.keep hW (fun h => h))
            refine t_load Try.isAgg4 rfl rfl rfl (B773.get rfl) ?_
            refine t_nil' ?_
            exact fun a ha => ⟨rfl, _, (fun v' h => by cases h; rfl), ha, hW⟩
          · exact fun D ρ w hcD hnD hdD hW => ⟨[(18, .bool ((nth ns k).single))], ⟨.inl ⟨1, some (.bool ((nth ns k).single)), rfl, rfl, rfl⟩, trivial⟩, fun Lr => t_move rfl rfl rfl (t_samehd (v := .bool false) (by simp [g19]) (t_nil' fun a ha => ⟨rfl, _, (fun v' h => by cases h; rfl), ha, hW⟩))⟩
          · -- 3
            intro D ρ w774 hcD hnD hdD hW
            have zhW := hW.size
            have E776 := E24.next hW (fun _ _ h => h.elim)
            refine ⟨[(1, .pointer (some ⟨b3, 0, none⟩)), (19, .bool false)], ⟨.inr ⟨rfl, rfl⟩, .inl ⟨2, some (.bool false), rfl, rfl, rfl⟩, trivial⟩, fun Lr => ?_⟩
            show WL _ _ _ _ _ _ _ ((1, .pointer (some ⟨b3, 0, none⟩)) :: (19, .bool false) :: Lr) _
            have B777 := ((((h3.keep u4 (show ¬ (T b3) by first | omega | assumption)).keep u19 (fun h => h)).keep u22 (show ¬ (b3 = bk16) by first | omega | assumption)).keep hW (fun h => h))
            refine t_load Try.isAgg124 rfl rfl rfl (B777.get rfl) ?_
            refine t_nil' ?_
            exact fun a ha => ⟨rfl, _, (fun v' h => by cases h; rfl), ha, hW⟩
          · exact fun D ρ w hcD hnD hdD hW => ⟨[(19, .bool false), (20, .pointer (some ⟨t, 0, none⟩))], ⟨.inl ⟨2, some (.bool false), rfl, rfl, rfl⟩, .inl ⟨3, some (.pointer (some ⟨t, 0, none⟩)), rfl, rfl, rfl⟩, trivial⟩, fun Lr => t_nilchk rfl rfl rfl (t_nil' fun a ha => ⟨rfl, _, (fun v' h => by cases h; rfl), ha, hW⟩)⟩
          · exact fun D ρ w hcD hnD hdD hW => ⟨[(19, .bool false), (21, .pointer (some ⟨t, 0, none⟩))], ⟨.inl ⟨2, some (.bool false), rfl, rfl, rfl⟩, .inl ⟨4, some (.pointer (some ⟨t, 0, none⟩)), rfl, rfl, rfl⟩, trivial⟩, fun Lr => t_field Try.underlying160 rfl Try.sizeOf34 (0) rfl rfl rfl rfl (t_nil' fun a ha => ⟨rfl, _, (fun v' h => by cases h; rfl), ha, hW⟩)⟩
          · -- 6
            intro D ρ w778 hcD hnD hdD hW
            have zhW := hW.size
            have E780 := E24.next hW (fun _ _ h => h.elim)
            refine ⟨[(19, .bool false), (22, .pointer (some ⟨t, 0, none⟩))], ⟨.inl ⟨2, some (.bool false), rfl, rfl, rfl⟩, .inl ⟨5, some (.pointer (some ⟨t, 0, none⟩)), rfl, rfl, rfl⟩, trivial⟩, fun Lr => ?_⟩
            show WL _ _ _ _ _ _ _ ((19, .bool false) :: (22, .pointer (some ⟨t, 0, none⟩)) :: Lr) _
            have B781 := ((((htb.keep u4 (show ¬ (T t) by first | omega | assumption)).keep u19 (fun h => h)).keep u22 (show ¬ (t = bk16) by first | omega | assumption)).keep hW (fun h => h))
            refine t_load Try.isAgg34 rfl rfl rfl (B781.get rfl) ?_
            refine t_nil' ?_
            exact fun a ha => ⟨rfl, _, (fun v' h => by cases h; rfl), ha, hW⟩
          · -- 7
            intro D ρ w782 hcD hnD hdD hW
            have zhW := hW.size
            have E784 := E24.next hW (fun _ _ h => h.elim)
            refine ⟨[(2, .pointer (some ⟨b4, 0, none⟩)), (19, .bool false)], ⟨.inr ⟨rfl, rfl⟩, .inl ⟨2, some (.bool false), rfl, rfl, rfl⟩, trivial⟩, fun Lr => ?_⟩
            show WL _ _ _ _ _ _ _ ((2, .pointer (some ⟨b4, 0, none⟩)) :: (19, .bool false) :: Lr) _
            have B785 := ((((h4.keep u4 (show ¬ (T b4) by first | omega | assumption)).keep u19 (fun h => h)).keep u22 (show ¬ (b4 = bk16) by first | omega | assumption)).keep hW (fun h => h))
            refine t_load Try.isAgg3 rfl rfl rfl (B785.get rfl) ?_
            refine t_nil' ?_
            exact fun a ha => ⟨rfl, _, (fun v' h => by cases h; rfl), ha, hW⟩
          · -- 8
            intro D ρ w786 hcD hnD hdD hW
            have zhW := hW.size
            have E788 := E24.next hW (fun _ _ h => h.elim)
            refine ⟨[(19, .bool false), (23, .slice av vs.length cv), (24, .int .i64 (i : Int))], ⟨.inl ⟨2, some (.bool false), rfl, rfl, rfl⟩, .inl ⟨6, some (.slice av vs.length cv), rfl, rfl, rfl⟩, .inl ⟨7, some (.int .i64 (i : Int)), rfl, rfl, rfl⟩, trivial⟩, fun Lr => ?_⟩
            show WL _ _ _ _ _ _ _ ((19, .bool false) :: (23, .slice av vs.length cv) :: (24, .int .i64 (i : Int)) :: Lr) _
            have D789 := (((D14.keep u19 (fun _ _ h => h)).keep u22 (fun i hi => show ¬ (i = bk16) by omega)).keep hW (fun _ _ h => h))
            have i790 : i < vs.length := (by omega)
            refine t_index (j := i) Try.underlying34 Try.sizeOf48 rfl rfl rfl rfl (D789.vsl.addr (by omega)) rfl i790 ?_
            refine t_nil' ?_
            exact fun a ha => ⟨rfl, _, (fun v' h => by cases h; rfl), ha, hW⟩
          · exact fun D ρ w hcD hnD hdD hW => ⟨[(19, .bool false), (25, .pointer (some ⟨bv, ov + i * 5, none⟩))], ⟨.inl ⟨2, some (.bool false), rfl, rfl, rfl⟩, .inl ⟨8, some (.pointer (some ⟨bv, ov + i * 5, none⟩)), rfl, rfl, rfl⟩, trivial⟩, fun Lr => t_field Try.underlying48 rfl Try.sizeOf3 (ov + i * 5 + 4) rfl rfl rfl rfl (t_nil' fun a ha => ⟨rfl, _, (fun v' h => by cases h; rfl), ha, hW⟩)⟩
          · -- 10
            intro D ρ w791 hcD hnD hdD hW
            have zhW := hW.size
            have E793 := E24.next hW (fun _ _ h => h.elim)
            refine ⟨[(19, .bool false), (26, .pointer (some ⟨bv, ov + i * 5 + 4, none⟩))], ⟨.inl ⟨2, some (.bool false), rfl, rfl, rfl⟩, .inl ⟨9, some (.pointer (some ⟨bv, ov + i * 5 + 4, none⟩)), rfl, rfl, rfl⟩, trivial⟩, fun Lr => ?_⟩
            show WL _ _ _ _ _ _ _ ((19, .bool false) :: (26, .pointer (some ⟨bv, ov + i * 5 + 4, none⟩)) :: Lr) _
            have D794 := (((D14.keep u19 (fun _ _ h => h)).keep u22 (fun i hi => show ¬ (i = bk16) by omega)).keep hW (fun _ _ h => h))
            refine t_load Try.isAgg3 rfl rfl rfl ((D794.vsl.at_ i (by omega)) 4 _ rfl) ?_
            refine t_nil' ?_
            exact fun a ha => ⟨rfl, _, (fun v' h => by cases h; rfl), ha, hW⟩
          · -- 11
            intro D ρ w795 hcD hnD hdD hW
            have zhW := hW.size
            have E797 := E24.next hW (fun _ _ h => h.elim)
            refine ⟨[(1, .pointer (some ⟨b3, 0, none⟩)), (19, .bool false)], ⟨.inr ⟨rfl, rfl⟩, .inl ⟨2, some (.bool false), rfl, rfl, rfl⟩, trivial⟩, fun Lr => ?_⟩
            show WL _ _ _ _ _ _ _ ((1, .pointer (some ⟨b3, 0, none⟩)) :: (19, .bool false) :: Lr) _
            have B798 := ((((h3.keep u4 (show ¬ (T b3) by first | omega | assumption)).keep u19 (fun h => h)).keep u22 (show ¬ (b3 = bk16) by first | omega | assumption)).keep hW (fun h => h))
            refine t_load Try.isAgg124 rfl rfl rfl (B798.get rfl) ?_
            refine t_nil' ?_
            exact fun a ha => ⟨rfl, _, (fun v' h => by cases h; rfl), ha, hW⟩
          · exact fun D ρ w hcD hnD hdD hW => ⟨[(19, .bool false), (28, .pointer (some ⟨t, 0, none⟩))], ⟨.inl ⟨2, some (.bool false), rfl, rfl, rfl⟩, .inl ⟨11, some (.pointer (some ⟨t, 0, none⟩)), rfl, rfl, rfl⟩, trivial⟩, fun Lr => t_nilchk rfl rfl rfl (t_nil' fun a ha => ⟨rfl, _, (fun v' h => by cases h; rfl), ha, hW⟩)⟩
          · exact fun D ρ w hcD hnD hdD hW => ⟨[(19, .bool false), (29, .pointer (some ⟨t, 0, none⟩))], ⟨.inl ⟨2, some (.bool false), rfl, rfl, rfl⟩, .inl ⟨12, some (.pointer (some ⟨t, 0, none⟩)), rfl, rfl, rfl⟩, trivial⟩, fun Lr => t_field Try.underlying160 rfl Try.sizeOf34 (0) rfl rfl rfl rfl (t_nil' fun a ha => ⟨rfl, _, (fun v' h => by cases h; rfl), ha, hW⟩)⟩
          · -- 14
            intro D ρ w799 hcD hnD hdD hW
            have zhW := hW.size
            have E801 := E24.next hW (fun _ _ h => h.elim)
            refine ⟨[(19, .bool false), (30, .pointer (some ⟨t, 0, none⟩))], ⟨.inl ⟨2, some (.bool false), rfl, rfl, rfl⟩, .inl ⟨13, some (.pointer (some ⟨t, 0, none⟩)), rfl, rfl, rfl⟩, trivial⟩, fun Lr => ?_⟩
            show WL _ _ _ _ _ _ _ ((19, .bool false) :: (30, .pointer (some ⟨t, 0, none⟩)) :: Lr) _
            have B802 := ((((htb.keep u4 (show ¬ (T t) by first | omega | assumption)).keep u19 (fun h => h)).keep u22 (show ¬ (t = bk16) by first | omega | assumption)).keep hW (fun h => h))
            refine t_load Try.isAgg34 rfl rfl rfl (B802.get rfl) ?_
            refine t_nil' ?_
            exact fun a ha => ⟨rfl, _, (fun v' h => by cases h; rfl), ha, hW⟩
          · -- 15
            intro D ρ w803 hcD hnD hdD hW
            have zhW := hW.size
            have E805 := E24.next hW (fun _ _ h => h.elim)
            refine ⟨[(3, .pointer (some ⟨b5, 0, none⟩)), (19, .bool false)], ⟨.inr ⟨rfl, rfl⟩, .inl ⟨2, some (.bool false), rfl, rfl, rfl⟩, trivial⟩, fun Lr => ?_⟩
            show WL _ _ _ _ _ _ _ ((3, .pointer (some ⟨b5, 0, none⟩)) :: (19, .bool false) :: Lr) _
            have B806 := ((((h5.keep u4 (show ¬ (T b5) by first | omega | assumption)).keep u19 (fun h => h)).keep u22 (show ¬ (b5 = bk16) by first | omega | assumption)).keep hW (fun h => h))
            refine t_load Try.isAgg3 rfl rfl rfl (B806.get rfl) ?_
            refine t_nil' ?_
            exact fun a ha => ⟨rfl, _, (fun v' h => by cases h; rfl), ha, hW⟩
          · -- 16
            intro D ρ w807 hcD hnD hdD hW
            have zhW := hW.size
            have E809 := E24.next hW (fun _ _ h => h.elim)
            refine ⟨[(19, .bool false), (31, .slice av vs.length cv), (32, .int .i64 (j : Int))], ⟨.inl ⟨2, some (.bool false), rfl, rfl, rfl⟩, .inl ⟨14, some (.slice av vs.length cv), rfl, rfl, rfl⟩, .inl ⟨15, some (.int .i64 (j : Int)), rfl, rfl, rfl⟩, trivial⟩, fun Lr => ?_⟩
            show WL _ _ _ _ _ _ _ ((19, .bool false) :: (31, .slice av vs.length cv) :: (32, .int .i64 (j : Int)) :: Lr) _
            have D810 := (((D14.keep u19 (fun _ _ h => h)).keep u22 (fun i hi => show ¬ (i = bk16) by omega)).keep hW (fun _ _ h => h))
            have i811 : j < vs.length := (by omega)
            refine t_index (j := j) Try.underlying34 Try.sizeOf48 rfl rfl rfl rfl (D810.vsl.addr (by omega)) rfl i811 ?_
            refine t_nil' ?_
            exact fun a ha => ⟨rfl, _, (fun v' h => by cases h; rfl), ha, hW⟩
          · exact fun D ρ w hcD hnD hdD hW => ⟨[(19, .bool false), (33, .pointer (some ⟨bv, ov + j * 5, none⟩))], ⟨.inl ⟨2, some (.bool false), rfl, rfl, rfl⟩, .inl ⟨16, some (.pointer (some ⟨bv, ov + j * 5, none⟩)), rfl, rfl, rfl⟩, trivial⟩, fun Lr => t_field Try.underlying48 rfl Try.sizeOf3 (ov + j * 5 + 4) rfl rfl rfl rfl (t_nil' fun a ha => ⟨rfl, _, (fun v' h => by cases h; rfl), ha, hW⟩)⟩
          · -- 18
            intro D ρ w812 hcD hnD hdD hW
            have zhW := hW.size
            have E814 := E24.next hW (fun _ _ h => h.elim)
            refine ⟨[(19, .bool false), (34, .pointer (some ⟨bv, ov + j * 5 + 4, none⟩))], ⟨.inl ⟨2, some (.bool false), rfl, rfl, rfl⟩, .inl ⟨17, some (.pointer (some ⟨bv, ov + j * 5 + 4, none⟩)), rfl, rfl, rfl⟩, trivial⟩, fun Lr => ?_⟩
            show WL _ _ _ _ _ _ _ ((19, .bool false) :: (34, .pointer (some ⟨bv, ov + j * 5 + 4, none⟩)) :: Lr) _
            have D815 := (((D14.keep u19 (fun _ _ h => h)).keep u22 (fun i hi => show ¬ (i = bk16) by omega)).keep hW (fun _ _ h => h))
            refine t_load Try.isAgg3 rfl rfl rfl ((D815.vsl.at_ j (by omega)) 4 _ rfl) ?_
            refine t_nil' ?_
            exact fun a ha => ⟨rfl, _, (fun v' h => by cases h; rfl), ha, hW⟩
          · -- 19
            intro D ρ w816 hcD hnD hdD hW
            have zhW := hW.size
            have E818 := E24.next hW (fun _ _ h => h.elim)
            refine ⟨[(19, .bool false), (27, .int .i64 ((nth vs i).v.wid)), (35, .int .i64 ((nth vs j).v.wid))], ⟨.inl ⟨2, some (.bool false), rfl, rfl, rfl⟩, .inl ⟨10, some (.int .i64 ((nth vs i).v.wid)), rfl, rfl, rfl⟩, .inl ⟨18, some (.int .i64 ((nth vs j).v.wid)), rfl, rfl, rfl⟩, trivial⟩, fun Lr => ?_⟩
            show WL _ _ _ _ _ _ _ ((19, .bool false) :: (27, .int .i64 ((nth vs i).v.wid)) :: (35, .int .i64 ((nth vs j).v.wid)) :: Lr) _
            refine t_ari rfl rfl rfl rfl rfl (by omega) ?_
            refine t_nil' ?_
            exact fun a ha => ⟨rfl, _, (fun v' h => by cases h; rfl), ha, hW⟩
          · exact fun D ρ w hcD hnD hdD hW => ⟨[(6, .pointer (some ⟨bk16, 0, none⟩)), (19, .bool false)], ⟨.inr ⟨rfl, rfl⟩, .inl ⟨2, some (.bool false), rfl, rfl, rfl⟩, trivial⟩, fun Lr => t_field Try.underlying72 rfl Try.sizeOf3 (2) rfl rfl rfl rfl (t_nil' fun a ha => ⟨rfl, _, (fun v' h => by cases h; rfl), ha, hW⟩)⟩
          · -- 21
            intro D ρ w819 hcD hnD hdD hW
            have zhW := hW.size
            have E821 := E24.next hW (fun _ _ h => h.elim)
            refine ⟨[(19, .bool false), (37, .pointer (some ⟨bk16, 2, none⟩))], ⟨.inl ⟨2, some (.bool false), rfl, rfl, rfl⟩, .inl ⟨20, some (.pointer (some ⟨bk16, 2, none⟩)), rfl, rfl, rfl⟩, trivial⟩, fun Lr => ?_⟩
            show WL _ _ _ _ _ _ _ ((19, .bool false) :: (37, .pointer (some ⟨bk16, 2, none⟩)) :: Lr) _
            have B822 := (B23.keep hW (fun h => h))
            refine t_load Try.isAgg3 rfl rfl rfl (B822.get rfl) ?_
            refine t_nil' ?_
            exact fun a ha => ⟨rfl, _, (fun v' h => by cases h; rfl), ha, hW⟩
          · exact fun D ρ w hcD hnD hdD hW => ⟨[(19, .bool false), (36, .int .i64 ((nth vs i).v.wid + ((nth vs j).v.wid))), (38, .int .i64 ((nth ns k).wid))], ⟨.inl ⟨2, some (.bool false), rfl, rfl, rfl⟩, .inl ⟨19, some (.int .i64 ((nth vs i).v.wid + ((nth vs j).v.wid))), rfl, rfl, rfl⟩, .inl ⟨21, some (.int .i64 ((nth ns k).wid)), rfl, rfl, rfl⟩, trivial⟩, fun Lr => t_cmp rfl rfl rfl rfl rfl (t_nil' fun a ha => ⟨rfl, _, (fun v' h => by cases h; rfl), ha, hW⟩)⟩
          · exact fun D ρ w hcD hnD hdD hW => ⟨[(19, .bool false), (39, .bool (decide ((nth ns k).wid < ((nth vs i).v.wid + ((nth vs j).v.wid)))))], ⟨.inl ⟨2, some (.bool false), rfl, rfl, rfl⟩, .inl ⟨22, some (.bool (decide ((nth ns k).wid < ((nth vs i).v.wid + ((nth vs j).v.wid))))), rfl, rfl, rfl⟩, trivial⟩, fun Lr => t_pick_f rfl rfl rfl rfl (t_nil' fun a ha => ⟨rfl, _, (fun v' h => by cases h; rfl), ha, hW⟩)⟩
          · exact fun D ρ w hcD hnD hdD hW => ⟨[(40, .bool (decide ((nth ns k).wid < ((nth vs i).v.wid + ((nth vs j).v.wid)))))], ⟨.inl ⟨23, some (.bool (decide ((nth ns k).wid < ((nth vs i).v.wid + ((nth vs j).v.wid))))), rfl, rfl, rfl⟩, trivial⟩, fun Lr => t_move rfl rfl rfl (t_samehd (v := .bool true) (by simp [g41]) (t_nil' fun a ha => ⟨rfl, _, (fun v' h => by cases h; rfl), ha, hW⟩))⟩
          · -- 25
            intro D ρ w823 hcD hnD hdD hW
            have zhW := hW.size
            have E825 := E24.next hW (fun _ _ h => h.elim)
            refine ⟨[(1, .pointer (some ⟨b3, 0, none⟩)), (41, .bool true)], ⟨.inr ⟨rfl, rfl⟩, .inl ⟨24, some (.bool true), rfl, rfl, rfl⟩, trivial⟩, fun Lr => ?_⟩
            show WL _ _ _ _ _ _ _ ((1, .pointer (some ⟨b3, 0, none⟩)) :: (41, .bool true) :: Lr) _
            have B826 := ((((h3.keep u4 (show ¬ (T b3) by first | omega | assumption)).keep u19 (fun h => h)).keep u22 (show ¬ (b3 = bk16) by first | omega | assumption)).keep hW (fun h => h))
            refine t_load Try.isAgg124 rfl rfl rfl (B826.get rfl) ?_
            refine t_nil' ?_
            exact fun a ha => ⟨rfl, _, (fun v' h => by cases h; rfl), ha, hW⟩
          · exact fun D ρ w hcD hnD hdD hW => ⟨[(41, .bool true), (42, .pointer (some ⟨t, 0, none⟩))], ⟨.inl ⟨24, some (.bool true), rfl, rfl, rfl⟩, .inl ⟨25, some (.pointer (some ⟨t, 0, none⟩)), rfl, rfl, rfl⟩, trivial⟩, fun Lr => t_nilchk rfl rfl rfl (t_nil' fun a ha => ⟨rfl, _, (fun v' h => by cases h; rfl), ha, hW⟩)⟩
          · exact fun D ρ w hcD hnD hdD hW => ⟨[(41, .bool true), (43, .pointer (some ⟨t, 0, none⟩))], ⟨.inl ⟨24, some (.bool true), rfl, rfl, rfl⟩, .inl ⟨26, some (.pointer (some ⟨t, 0, none⟩)), rfl, rfl, rfl⟩, trivial⟩, fun Lr => t_field Try.underlying160 rfl Try.sizeOf158 (2) rfl rfl rfl rfl (t_nil' fun a ha => ⟨rfl, _, (fun v' h => by cases h; rfl), ha, hW⟩)⟩
          · -- 28
            intro D ρ w827 hcD hnD hdD hW
            have zhW := hW.size
            have E829 := E24.next hW (fun _ _ h => h.elim)
            refine ⟨[(41, .bool true), (44, .pointer (some ⟨t, 2, none⟩))], ⟨.inl ⟨24, some (.bool true), rfl, rfl, rfl⟩, .inl ⟨27, some (.pointer (some ⟨t, 2, none⟩)), rfl, rfl, rfl⟩, trivial⟩, fun Lr => ?_⟩
            show WL _ _ _ _ _ _ _ ((41, .bool true) :: (44, .pointer (some ⟨t, 2, none⟩)) :: Lr) _
            have B830 := ((((htb.keep u4 (show ¬ (T t) by first | omega | assumption)).keep u19 (fun h => h)).keep u22 (show ¬ (t = bk16) by first | omega | assumption)).keep hW (fun h => h))
            refine t_load Try.isAgg158 rfl rfl rfl (B830.get rfl) ?_
            refine t_nil' ?_
            exact fun a ha => ⟨rfl, _, (fun v' h => by cases h; rfl), ha, hW⟩
          · -- 29
            intro D ρ w831 hcD hnD hdD hW
            have zhW := hW.size
            have E833 := E24.next hW (fun _ _ h => h.elim)
            refine ⟨[(2, .pointer (some ⟨b4, 0, none⟩)), (41, .bool true)], ⟨.inr ⟨rfl, rfl⟩, .inl ⟨24, some (.bool true), rfl, rfl, rfl⟩, trivial⟩, fun Lr => ?_⟩
            show WL _ _ _ _ _ _ _ ((2, .pointer (some ⟨b4, 0, none⟩)) :: (41, .bool true) :: Lr) _
            have B834 := ((((h4.keep u4 (show ¬ (T b4) by first | omega | assumption)).keep u19 (fun h => h)).keep u22 (show ¬ (b4 = bk16) by first | omega | assumption)).keep hW (fun h => h))
            refine t_load Try.isAgg3 rfl rfl rfl (B834.get rfl) ?_
            refine t_nil' ?_
            exact fun a ha => ⟨rfl, _, (fun v' h => by cases h; rfl), ha, hW⟩
          · -- 30
            intro D ρ w835 hcD hnD hdD hW
            have zhW := hW.size
            have E837 := E24.next hW (fun _ _ h => h.elim)
            refine ⟨[(41, .bool true), (45, .slice ar rows.length cr), (46, .int .i64 (i : Int))], ⟨.inl ⟨24, some (.bool true), rfl, rfl, rfl⟩, .inl ⟨28, some (.slice ar rows.length cr), rfl, rfl, rfl⟩, .inl ⟨29, some (.int .i64 (i : Int)), rfl, rfl, rfl⟩, trivial⟩, fun Lr => ?_⟩
            show WL _ _ _ _ _ _ _ ((41, .bool true) :: (45, .slice ar rows.length cr) :: (46, .int .i64 (i : Int)) :: Lr) _
            have D838 := (((D14.keep u19 (fun _ _ h => h)).keep u22 (fun i hi => show ¬ (i = bk16) by omega)).keep hW (fun _ _ h => h))
            have i839 : i < rows.length := (by omega)
            refine t_index (j := i) Try.underlying158 Try.sizeOf157 rfl rfl rfl rfl (D838.ssl.addr (by omega)) rfl i839 ?_
            refine t_nil' ?_
            exact fun a ha => ⟨rfl, _, (fun v' h => by cases h; rfl), ha, hW⟩
          · -- 31
            intro D ρ w840 hcD hnD hdD hW
            have zhW := hW.size
            have E842 := E24.next hW (fun _ _ h => h.elim)
            refine ⟨[(41, .bool true), (47, .pointer (some ⟨br, 0 + i * 1, none⟩))], ⟨.inl ⟨24, some (.bool true), rfl, rfl, rfl⟩, .inl ⟨30, some (.pointer (some ⟨br, 0 + i * 1, none⟩)), rfl, rfl, rfl⟩, trivial⟩, fun Lr => ?_⟩
            show WL _ _ _ _ _ _ _ ((41, .bool true) :: (47, .pointer (some ⟨br, 0 + i * 1, none⟩)) :: Lr) _
            have D843 := (((D14.keep u19 (fun _ _ h => h)).keep u22 (fun i hi => show ¬ (i = bk16) by omega)).keep hW (fun _ _ h => h))
            refine t_load Try.isAgg157 rfl rfl rfl ((D843.ssl.at_ i (by omega)) 0 _ rfl) ?_
            refine t_nil' ?_
            exact fun a ha => ⟨rfl, _, (fun v' h => by cases h; rfl), ha, hW⟩
          · exact fun D ρ w hcD hnD hdD hW => ⟨[(5, .int .i64 (k : Int)), (41, .bool true)], ⟨.inr ⟨rfl, rfl⟩, .inl ⟨24, some (.bool true), rfl, rfl, rfl⟩, trivial⟩, fun Lr => t_move rfl rfl rfl (t_nil' fun a ha => ⟨rfl, _, (fun v' h => by cases h; rfl), ha, hW⟩)⟩
          · -- 33
            intro D ρ w844 hcD hnD hdD hW
            have zhW := hW.size
            have E846 := E24.next hW (fun _ _ h => h.elim)
            refine ⟨[(41, .bool true), (48, .slice ((nth rows i).ao) (((nth rows i).ss).length) ((nth rows i).cap)), (49, .int .i64 (k : Int))], ⟨.inl ⟨24, some (.bool true), rfl, rfl, rfl⟩, .inl ⟨31, some (.slice ((nth rows i).ao) (((nth rows i).ss).length) ((nth rows i).cap)), rfl, rfl, rfl⟩, .inl ⟨32, some (.int .i64 (k : Int)), rfl, rfl, rfl⟩, trivial⟩, fun Lr => ?_⟩
            show WL _ _ _ _ _ _ _ ((41, .bool true) :: (48, .slice ((nth rows i).ao) (((nth rows i).ss).length) ((nth rows i).cap)) :: (49, .int .i64 (k : Int)) :: Lr) _
            have D847 := (((D14.keep u19 (fun _ _ h => h)).keep u22 (fun i hi => show ¬ (i = bk16) by omega)).keep hW (fun _ _ h => h))
            have i848 : k < ((nth rows i).ss).length := (by omega)
            refine t_index (j := k) Try.underlying157 Try.sizeOf141 rfl rfl rfl rfl ((D847.rsl (nth rows i) (nth_mem (by omega))).addr (by omega)) rfl i848 ?_
            refine t_nil' ?_
            exact fun a ha => ⟨rfl, _, (fun v' h => by cases h; rfl), ha, hW⟩
          · exact fun D ρ w hcD hnD hdD hW => ⟨[(41, .bool true), (50, .pointer (some ⟨(nth rows i).g, 0 + k * 5, none⟩))], ⟨.inl ⟨24, some (.bool true), rfl, rfl, rfl⟩, .inl ⟨33, some (.pointer (some ⟨(nth rows i).g, 0 + k * 5, none⟩)), rfl, rfl, rfl⟩, trivial⟩, fun Lr => t_field Try.underlying141 rfl Try.sizeOf4 (0 + k * 5 + 4) rfl rfl rfl rfl (t_nil' fun a ha => ⟨rfl, _, (fun v' h => by cases h; rfl), ha, hW⟩)⟩
          · -- 35
            intro D ρ w849 hcD hnD hdD hW
            have zhW := hW.size
            have E851 := E24.next hW (fun _ _ h => h.elim)
            refine ⟨[(41, .bool true), (51, .pointer (some ⟨(nth rows i).g, 0 + k * 5 + 4, none⟩))], ⟨.inl ⟨24, some (.bool true), rfl, rfl, rfl⟩, .inl ⟨34, some (.pointer (some ⟨(nth rows i).g, 0 + k * 5 + 4, none⟩)), rfl, rfl, rfl⟩, trivial⟩, fun Lr => ?_⟩
            show WL _ _ _ _ _ _ _ ((41, .bool true) :: (51, .pointer (some ⟨(nth rows i).g, 0 + k * 5 + 4, none⟩)) :: Lr) _
            have D852 := (((D14.keep u19 (fun _ _ h => h)).keep u22 (fun i hi => show ¬ (i = bk16) by omega)).keep hW (fun _ _ h => h))
            refine t_load Try.isAgg4 rfl rfl rfl (((D852.rsl (nth rows i) (nth_mem (by omega))).at_ k (by omega)) 4 _ rfl) ?_
            refine t_nil' ?_
            exact fun a ha => ⟨rfl, _, (fun v' h => by cases h; rfl), ha, hW⟩
          · exact fun D ρ w hcD hnD hdD hW => ⟨[(41, .bool true), (52, .bool ((nth ((nth rows i).ss) k).there))], ⟨.inl ⟨24, some (.bool true), rfl, rfl, rfl⟩, .inl ⟨35, some (.bool ((nth ((nth rows i).ss) k).there)), rfl, rfl, rfl⟩, trivial⟩, fun Lr => t_pick_t rfl rfl rfl rfl (t_nil' fun a ha => ⟨rfl, _, (fun v' h => by cases h; rfl), ha, hW⟩)⟩
          · exact fun D ρ w hcD hnD hdD hW => ⟨[(53, .bool ((nth ((nth rows i).ss) k).there))], ⟨.inl ⟨36, some (.bool ((nth ((nth rows i).ss) k).there)), rfl, rfl, rfl⟩, trivial⟩, fun Lr => t_move rfl rfl rfl (t_samehd (v := .bool false) (by simp [g54]) (t_nil' fun a ha => ⟨rfl, _, (fun v' h => by cases h; rfl), ha, hW⟩))⟩
          · exact fun D ρ w hcD hnD hdD hW => ⟨[(1, .pointer (some ⟨b3, 0, none⟩)), (54, .bool false)], ⟨.inr ⟨rfl, rfl⟩, .inl ⟨37, some (.bool false), rfl, rfl, rfl⟩, trivial⟩, fun Lr => t_skip rfl rfl rfl (t_nil' fun a ha => ⟨rfl, _, (fun v' h => by cases h; rfl), ha, hW⟩)⟩
          · exact fun D ρ w hcD hnD hdD hW => ⟨[(54, .bool false), (55, undef)], ⟨.inl ⟨37, some (.bool false), rfl, rfl, rfl⟩, .inl ⟨38, some (undef), rfl, rfl, rfl⟩, trivial⟩, fun Lr => t_skip rfl rfl rfl (t_nil' fun a ha => ⟨rfl, _, (fun v' h => by cases h; rfl), ha, hW⟩)⟩
          · exact fun D ρ w hcD hnD hdD hW => ⟨[(54, .bool false), (56, undef)], ⟨.inl ⟨37, some (.bool false), rfl, rfl, rfl⟩, .inl ⟨39, some (undef), rfl, rfl, rfl⟩, trivial⟩, fun Lr => t_skip rfl rfl rfl (t_nil' fun a ha => ⟨rfl, _, (fun v' h => by cases h; rfl), ha, hW⟩)⟩
          · exact fun D ρ w hcD hnD hdD hW => ⟨[(54, .bool false), (57, undef)], ⟨.inl ⟨37, some (.bool false), rfl, rfl, rfl⟩, .inl ⟨40, some (undef), rfl, rfl, rfl⟩, trivial⟩, fun Lr => t_skip rfl rfl rfl (t_nil' fun a ha => ⟨rfl, _, (fun v' h => by cases h; rfl), ha, hW⟩)⟩
          · exact fun D ρ w hcD hnD hdD hW => ⟨[(3, .pointer (some ⟨b5, 0, none⟩)), (54, .bool false)], ⟨.inr ⟨rfl, rfl⟩, .inl ⟨37, some (.bool false), rfl, rfl, rfl⟩, trivial⟩, fun Lr => t_skip rfl rfl rfl (t_nil' fun a ha => ⟨rfl, _, (fun v' h => by cases h; rfl), ha, hW⟩)⟩
          · exact fun D ρ w hcD hnD hdD hW => ⟨[(54, .bool false), (58, undef), (59, undef)], ⟨.inl ⟨37, some (.bool false), rfl, rfl, rfl⟩, .inl ⟨41, some (undef), rfl, rfl, rfl⟩, .inl ⟨42, some (undef), rfl, rfl, rfl⟩, trivial⟩, fun Lr => t_skip rfl rfl rfl (t_nil' fun a ha => ⟨rfl, _, (fun v' h => by cases h; rfl), ha, hW⟩)⟩
          · exact fun D ρ w hcD hnD hdD hW => ⟨[(54, .bool false), (60, undef)], ⟨.inl ⟨37, some (.bool false), rfl, rfl, rfl⟩, .inl ⟨43, some (undef), rfl, rfl, rfl⟩, trivial⟩, fun Lr => t_skip rfl rfl rfl (t_nil' fun a ha => ⟨rfl, _, (fun v' h => by cases h; rfl), ha, hW⟩)⟩
          · exact fun D ρ w hcD hnD hdD hW => ⟨[(5, .int .i64 (k : Int)), (54, .bool false)], ⟨.inr ⟨rfl, rfl⟩, .inl ⟨37, some (.bool false), rfl, rfl, rfl⟩, trivial⟩, fun Lr => t_skip rfl rfl rfl (t_nil' fun a ha => ⟨rfl, _, (fun v' h => by cases h; rfl), ha, hW⟩)⟩
          · exact fun D ρ w hcD hnD hdD hW => ⟨[(54, .bool false), (61, undef), (62, undef)], ⟨.inl ⟨37, some (.bool false), rfl, rfl, rfl⟩, .inl ⟨44, some (undef), rfl, rfl, rfl⟩, .inl ⟨45, some (undef), rfl, rfl, rfl⟩, trivial⟩, fun Lr => t_skip rfl rfl rfl (t_nil' fun a ha => ⟨rfl, _, (fun v' h => by cases h; rfl), ha, hW⟩)⟩
          · exact fun D ρ w hcD hnD hdD hW => ⟨[(54, .bool false), (63, undef)], ⟨.inl ⟨37, some (.bool false), rfl, rfl, rfl⟩, .inl ⟨46, some (undef), rfl, rfl, rfl⟩, trivial⟩, fun Lr => t_skip rfl rfl rfl (t_nil' fun a ha => ⟨rfl, _, (fun v' h => by cases h; rfl), ha, hW⟩)⟩
          · exact fun D ρ w hcD hnD hdD hW => ⟨[(54, .bool false), (64, undef)], ⟨.inl ⟨37, some (.bool false), rfl, rfl, rfl⟩, .inl ⟨47, some (undef), rfl, rfl, rfl⟩, trivial⟩, fun Lr => t_skip rfl rfl rfl (t_nil' fun a ha => ⟨rfl, _, (fun v' h => by cases h; rfl), ha, hW⟩)⟩
          · exact fun D ρ w hcD hnD hdD hW => ⟨[(54, .bool false), (65, undef)], ⟨.inl ⟨37, some (.bool false), rfl, rfl, rfl⟩, .inl ⟨48, some (undef), rfl, rfl, rfl⟩, trivial⟩, fun Lr => t_pick_f rfl rfl rfl rfl (t_nil' fun a ha => ⟨rfl, _, (fun v' h => by cases h; rfl), ha, hW⟩)⟩
          · exact fun D ρ w hcD hnD hdD hW => ⟨[(66, .bool false)], ⟨.inl ⟨49, some (.bool false), rfl, rfl, rfl⟩, trivial⟩, fun Lr => t_move rfl rfl rfl (t_nil' fun a ha => ⟨rfl, _, (fun v' h => by cases h; rfl), ha, hW⟩)⟩
          · exact fun D ρ w hcD hnD hdD hW => ⟨[(0, .func (.yield l) #[] #[]), (67, .bool false)], ⟨.inr ⟨rfl, rfl⟩, .inl ⟨50, some (.bool false), rfl, rfl, rfl⟩, trivial⟩, fun Lr => t_skip rfl rfl rfl (t_nil' fun a ha => ⟨rfl, _, (fun v' h => by cases h; rfl), ha, hW⟩)⟩
          · exact fun D ρ w hcD hnD hdD hW => ⟨[(5, .int .i64 (k : Int)), (67, .bool false)], ⟨.inr ⟨rfl, rfl⟩, .inl ⟨50, some (.bool false), rfl, rfl, rfl⟩, trivial⟩, fun Lr => t_skip rfl rfl rfl (t_nil' fun a ha => ⟨rfl, _, (fun v' h => by cases h; rfl), ha, hW⟩)⟩
          · exact fun D ρ w hcD hnD hdD hW => ⟨[(67, .bool false), (68, undef), (69, undef)], ⟨.inl ⟨50, some (.bool false), rfl, rfl, rfl⟩, .inl ⟨51, some (undef), rfl, rfl, rfl⟩, .inl ⟨52, some (undef), rfl, rfl, rfl⟩, trivial⟩, fun Lr => t_skip rfl rfl rfl (t_nil' fun a ha => ⟨rfl, _, (fun v' h => by cases h; rfl), ha, hW⟩)⟩
          · exact fun D ρ w hcD hnD hdD hW => ⟨[(67, .bool false), (70, undef)], ⟨.inl ⟨50, some (.bool false), rfl, rfl, rfl⟩, .inl ⟨53, some (undef), rfl, rfl, rfl⟩, trivial⟩, fun Lr => t_skip rfl rfl rfl (t_nil' fun a ha => ⟨rfl, _, (fun v' h => by cases h; rfl), ha, hW⟩)⟩
          · exact fun D ρ w hcD hnD hdD hW => ⟨[(67, .bool false), (71, undef)], ⟨.inl ⟨50, some (.bool false), rfl, rfl, rfl⟩, .inl ⟨54, some (undef), rfl, rfl, rfl⟩, trivial⟩, fun Lr => t_pick_f rfl rfl rfl rfl (t_nil' fun a ha => ⟨rfl, _, (fun v' h => by cases h; rfl), ha, hW⟩)⟩
          intro ρ w853 hW
          have u854 : Upd (fun _ => False) w21 w853 := hW
          have zu854 := u854.size
          have E855 := E24.next u854 (fun _ _ h => h.elim)
          refine QK.weak [(0, .func (.yield l) #[] #[]), (1, .pointer (some ⟨b3, 0, none⟩)), (2, .pointer (some ⟨b4, 0, none⟩)), (3, .pointer (some ⟨b5, 0, none⟩)), (5, .int .i64 (k : Int)), (6, .pointer (some ⟨bk16, 0, none⟩)), (10, .slice an ns.length cn), (11, .int .i64 (ns.length : Int)), (12, .int .i64 (k : Int)), (13, .bool (decide ((k : Int) < (ns.length : Int)))), (14, .int .i64 (k : Int)), (15, .pointer (some ⟨bn, on + k * 4, none⟩)), (16, .agg #[.int .i64 ((nth ns k).frm), .int .i64 ((nth ns k).to), .int .i64 ((nth ns k).wid), .bool ((nth ns k).single)]), (17, .pointer (some ⟨bk16, 3, none⟩)), (18, .bool ((nth ns k).single)), (19, .bool false), (20, .pointer (some ⟨t, 0, none⟩)), (21, .pointer (some ⟨t, 0, none⟩)), (22, .pointer (some ⟨t, 0, none⟩)), (23, .slice av vs.length cv), (24, .int .i64 (i : Int)), (25, .pointer (some ⟨bv, ov + i * 5, none⟩)), (26, .pointer (some ⟨bv, ov + i * 5 + 4, none⟩)), (27, .int .i64 ((nth vs i).v.wid)), (28, .pointer (some ⟨t, 0, none⟩)), (29, .pointer (some ⟨t, 0, none⟩)), (30, .pointer (some ⟨t, 0, none⟩)), (31, .slice av vs.length cv), (32, .int .i64 (j : Int)), (33, .pointer (some ⟨bv, ov + j * 5, none⟩)), (34, .pointer (some ⟨bv, ov + j * 5 + 4, none⟩)), (35, .int .i64 ((nth vs j).v.wid)), (36, .int .i64 ((nth vs i).v.wid + ((nth vs j).v.wid))), (37, .pointer (some ⟨bk16, 2, none⟩)), (38, .int .i64 ((nth ns k).wid)), (39, .bool (decide ((nth ns k).wid < ((nth vs i).v.wid + ((nth vs j).v.wid))))), (40, .bool (decide ((nth ns k).wid < ((nth vs i).v.wid + ((nth vs j).v.wid))))), (41, .bool true), (42, .pointer (some ⟨t, 0, none⟩)), (43, .pointer (some ⟨t, 0, none⟩)), (44, .pointer (some ⟨t, 2, none⟩)), (45, .slice ar rows.length cr), (46, .int .i64 (i : Int)), (47, .pointer (some ⟨br, 0 + i * 1, none⟩)), (48, .slice ((nth rows i).ao) (((nth rows i).ss).length) ((nth rows i).cap)), (49, .int .i64 (k : Int)), (50, .pointer (some ⟨(nth rows i).g, 0 + k * 5, none⟩)), (51, .pointer (some ⟨(nth rows i).g, 0 + k * 5 + 4, none⟩)), (52, .bool ((nth ((nth rows i).ss) k).there)), (53, .bool ((nth ((nth rows i).ss) k).there)), (54, .bool false), (66, .bool false), (67, .bool false), (72, .bool false)] ⟨rfl, rfl, rfl, rfl, rfl, rfl, rfl, rfl, rfl, rfl, rfl, rfl, rfl, rfl, rfl, rfl, rfl, rfl, rfl, rfl, rfl, rfl, rfl, rfl, rfl, rfl, rfl, rfl, rfl, rfl, rfl, rfl, rfl, rfl, rfl, rfl, rfl, rfl, rfl, rfl, rfl, rfl, rfl, rfl, rfl, rfl, rfl, rfl, rfl, rfl, rfl, rfl, rfl, rfl, trivial⟩ ?_
          refine hK25 _ _ ?_
          refine c_cond_f rfl ?_
          refine c_skip ?_
          refine hK12 _ _ ?_
          refine c_region ?_
          refine t_ari rfl rfl rfl rfl rfl (by omega) ?_
          refine t_move rfl rfl rfl ?_
          refine t_nil' ?_
          exact hK2 (k + 1, pre) _ _ (by show ns.length - (k + 1) < ns.length - k; omega) ⟨rfl, rfl, rfl, rfl, rfl, rfl, rfl, trivial⟩ ⟨(((u4.next u19 (fun _ _ h => h.elim)).next u22 (fun i hi (h : i = bk16) => show T i by first | omega | assumption)).next u854 (fun _ _ h => h.elim)), (by omega), (by rw [filter_succ, if_neg (by simp [barB, g19, g54])]; simpa using hpre), (by show pre.length ≤ (k + 1); omega), (hJ _ _ _ none hJk (Ext.grownBy ((((Upd.refl (fun _ => False) _).next u19 (fun _ _ h => h.elim)).next u22 (fun i hi (h : i = bk16) => show False by first | omega | assumption)).next u854 (fun _ _ h => h.elim))) (fun r e => by cases e))⟩
      ·
        refine WC.weak [(0, .func (.yield l) #[] #[]), (1, .pointer (some ⟨b3, 0, none⟩)), (2, .pointer (some ⟨b4, 0, none⟩)), (3, .pointer (some ⟨b5, 0, none⟩)), (5, .int .i64 (k : Int)), (6, .pointer (some ⟨bk16, 0, none⟩)), (10, .slice an ns.length cn), (11, .int .i64 (ns.length : Int)), (12, .int .i64 (k : Int)), (13, .bool (decide ((k : Int) < (ns.length : Int)))), (14, .int .i64 (k : Int)), (15, .pointer (some ⟨bn, on + k * 4, none⟩)), (16, .agg #[.int .i64 ((nth ns k).frm), .int .i64 ((nth ns k).to), .int .i64 ((nth ns k).wid), .bool ((nth ns k).single)])] ⟨rfl, rfl, rfl, rfl, rfl, rfl, rfl, rfl, rfl, rfl, rfl, rfl, rfl, trivial⟩ ?_
        refine c_drawn followsS' 56 [some (17, some (.pointer (some ⟨bk16, 3, none⟩))), some (18, some (.bool ((nth ns k).single))), some (19, some (.bool false)), some (20, some (.pointer (some ⟨t, 0, none⟩))), some (21, some (.pointer (some ⟨t, 0, none⟩))), some (22, some (.pointer (some ⟨t, 0, none⟩))), some (23, some (.slice av vs.length cv)), some (24, some (.int .i64 (i : Int))), some (25, some (.pointer (some ⟨bv, ov + i * 5, none⟩))), some (26, some (.pointer (some ⟨bv, ov + i * 5 + 4, none⟩))), some (27, some (.int .i64 ((nth vs i).v.wid))), some (28, some (.pointer (some ⟨t, 0, none⟩))), some (29, some (.pointer (some ⟨t, 0, none⟩))), some (30, some (.pointer (some ⟨t, 0, none⟩))), some (31, some (.slice av vs.length cv)), some (32, some (.int .i64 (j : Int))), some (33, some (.pointer (some ⟨bv, ov + j * 5, none⟩))), some (34, some (.pointer (some ⟨bv, ov + j * 5 + 4, none⟩))), some (35, some (.int .i64 ((nth vs j).v.wid))), some (36, some (.int .i64 ((nth vs i).v.wid + ((nth vs j).v.wid)))), some (37, some (.pointer (some ⟨bk16, 2, none⟩))), some (38, some (.int .i64 ((nth ns k).wid))), some (39, some (.bool (decide ((nth ns k).wid < ((nth vs i).v.wid + ((nth vs j).v.wid)))))), some (40, some (.bool (decide ((nth ns k).wid < ((nth vs i).v.wid + ((nth vs j).v.wid)))))), some (41, some (.bool false)), some (42, some (undef)), some (43, some (undef)), some (44, some (undef)), some (45, some (undef)), some (46, some (undef)), some (47, some (undef)), some (48, some (undef)), some (49, some (undef)), some (50, some (undef)), some (51, some (undef)), some (52, some (undef)), some (53, some (.bool false)), some (54, some (.bool false)), some (55, some (undef)), some (56, some (undef)), some (57, some (undef)), some (58, some (undef)), some (59, some (undef)), some (60, some (undef)), some (61, some (undef)), some (62, some (undef)), some (63, some (undef)), some (64, some (undef)), some (65, some (undef)), some (66, some (.bool false)), some (67, some (.bool false)), some (68, some (undef)), some (69, some (undef)), some (70, some (undef)), some (71, some (undef)), some (72, some (.bool false))] [[], [0], [1], [2], [3, 2], [4, 2], [5, 2], [2], [6, 7, 2], [8, 2], [9, 2], [2], [11, 2], [12, 2], [13, 2], [2], [14, 15, 2], [16, 2], [17, 2], [10, 18, 2], [2], [20, 2], [19, 21, 2], [2, 22], [23, 2], [24], [25, 24], [26, 24], [27, 24], [24], [28, 29, 24], [30, 24], [24], [31, 32, 24], [33, 24], [34, 24], [24, 35], [36, 24], [37], [38, 37], [39, 37], [40, 37], [37], [41, 42, 37], [43, 37], [37], [44, 45, 37], [46, 37], [47, 37], [37, 48], [49, 37], [50], [50], [51, 52, 50, 50], [53, 50], [50, 54]] (fun _ _ w => Upd (fun _ => False) w21 w) rfl rfl rfl (by kernel_rfl) (by kernel_rfl) (Upd.drew _).to ⟨?_, ?_, ?_, ?_, ?_, ?_, ?_, ?_, ?_, ?_, ?_, ?_, ?_, ?_, ?_, ?_, ?_, ?_, ?_, ?_, ?_, ?_, ?_, ?_, ?_, ?_, ?_, ?_, ?_, ?_, ?_, ?_, ?_, ?_, ?_, ?_, ?_, ?_, ?_, ?_, ?_, ?_, ?_, ?_, ?_, ?_, ?_, ?_, ?_, ?_, ?_, ?_, ?_, ?_, ?_, ?_, trivial⟩ ?_
        · exact fun D ρ w hcD hnD hdD hW => ⟨[(6, .pointer (some ⟨bk16, 0, none⟩))], ⟨.inr ⟨rfl, rfl⟩, trivial⟩, fun Lr => t_field Try.underlying72 rfl Try.sizeOf4 (3) rfl rfl rfl rfl (t_nil' fun a ha => ⟨rfl, _, (fun v' h => by cases h; rfl), ha, hW⟩)⟩
        · -- 1
          intro D ρ w863 hcD hnD hdD hW
          have zhW := hW.size
          have E865 := E24.next hW (fun _ _ h => h.elim)
          refine ⟨[(17, .pointer (some ⟨bk16, 3, none⟩))], ⟨.inl ⟨0, some (.pointer (some ⟨bk16, 3, none⟩)), rfl, rfl, rfl⟩, trivial⟩, fun Lr => ?_⟩
          show WL _ _ _ _ _ _ _ ((17, .pointer (some ⟨bk16, 3, none⟩)) :: Lr) _
          have B866 := (B23.keep hW (fun h => h))
          refine t_load Try.isAgg4 rfl rfl rfl (B866.get rfl) ?_
          refine t_nil' ?_
          exact fun a ha => ⟨rfl, _, (fun v' h => by cases h; rfl), ha, hW⟩
        · exact fun D ρ w hcD hnD hdD hW => ⟨[(18, .bool ((nth ns k).single))], ⟨.inl ⟨1, some (.bool ((nth ns k).single)), rfl, rfl, rfl⟩, trivial⟩, fun Lr => t_move rfl rfl rfl (t_samehd (v := .bool false) (by simp [g19]) (t_nil' fun a ha => ⟨rfl, _, (fun v' h => by cases h; rfl), ha, hW⟩))⟩
        · -- 3
          intro D ρ w867 hcD hnD hdD hW
          have zhW := hW.size
          have E869 := E24.next hW (fun _ _ h => h.elim)
          refine ⟨[(1, .pointer (some ⟨b3, 0, none⟩)), (19, .bool false)], ⟨.inr ⟨rfl, rfl⟩, .inl ⟨2, some (.bool false), rfl, rfl, rfl⟩, trivial⟩, fun Lr => ?_⟩
          show WL _ _ _ _ _ _ _ ((1, .pointer (some ⟨b3, 0, none⟩)) :: (19, .bool false) :: Lr) _
          have B870 := ((((h3.keep u4 (show ¬ (T b3) by first | omega | assumption)).keep u19 (fun h => h)).keep u22 (show ¬ (b3 = bk16) by first | omega | assumption)).keep hW (fun h => h))
          refine t_load Try.isAgg124 rfl rfl rfl (B870.get rfl) ?_
          refine t_nil' ?_
          exact fun a ha => ⟨rfl, _, (fun v' h => by cases h; rfl), ha, hW⟩
        · exact fun D ρ w hcD hnD hdD hW => ⟨[(19, .bool false), (20, .pointer (some ⟨t, 0, none⟩))], ⟨.inl ⟨2, some (.bool false), rfl, rfl, rfl⟩, .inl ⟨3, some (.pointer (some ⟨t, 0, none⟩)), rfl, rfl, rfl⟩, trivial⟩, fun Lr => t_nilchk rfl rfl rfl (t_nil' fun a ha => ⟨rfl, _, (fun v' h => by cases h; rfl), ha, hW⟩)⟩
        · exact fun D ρ w hcD hnD hdD hW => ⟨[(19, .bool false), (21, .pointer (some ⟨t, 0, none⟩))], ⟨.inl ⟨2, some (.bool false), rfl, rfl, rfl⟩, .inl ⟨4, some (.pointer (some ⟨t, 0, none⟩)), rfl, rfl, rfl⟩, trivial⟩, fun Lr => t_field Try.underlying160 rfl Try.sizeOf34 (0) rfl rfl rfl rfl (t_nil' fun a ha => ⟨rfl, _, (fun v' h => by cases h; rfl), ha, hW⟩)⟩
        · -- 6
          intro D ρ w871 hcD hnD hdD hW
          have zhW := hW.size
          have E873 := E24.next hW (fun _ _ h => h.elim)
          refine ⟨[(19, .bool false), (22, .pointer (some ⟨t, 0, none⟩))], ⟨.inl ⟨2, some (.bool false), rfl, rfl, rfl⟩, .inl ⟨5, some (.pointer (some ⟨t, 0, none⟩)), rfl, rfl, rfl⟩, trivial⟩, fun Lr => ?_⟩
          show WL _ _ _ _ _ _ _ ((19, .bool false) :: (22, .pointer (some ⟨t, 0, none⟩)) :: Lr) _
          have B874 := ((((htb.keep u4 (show ¬ (T t) by first | omega | assumption)).keep u19 (fun h => h)).keep u22 (show ¬ (t = bk16) by first | omega | assumption)).keep hW (fun h => h))
          refine t_load Try.isAgg34 rfl rfl rfl (B874.get rfl) ?_
          refine t_nil' ?_
          exact fun a ha => ⟨rfl, _, (fun v' h => by cases h; rfl), ha, hW⟩
        · -- 7
          intro D ρ w875 hcD hnD hdD hW
          have zhW := hW.size
          have E877 := E24.next hW (fun _ _ h => h.elim)
          refine ⟨[(2, .pointer (some ⟨b4, 0, none⟩)), (19, .bool false)], ⟨.inr ⟨rfl, rfl⟩, .inl ⟨2, some (.bool false), rfl, rfl, rfl⟩, trivial⟩, fun Lr => ?_⟩
          show WL _ _ _ _ _ _ _ ((2, .pointer (some ⟨b4, 0, none⟩)) :: (19, .bool false) :: Lr) _
          have B878 := ((((h4.keep u4 (show ¬ (T b4) by first | omega | assumption)).keep u19 (fun h => h)).keep u22 (show ¬ (b4 = bk16) by first | omega | assumption)).keep hW (fun h => h))
          refine t_load Try.isAgg3 rfl rfl rfl (B878.get rfl) ?_
          refine t_nil' ?_
          exact fun a ha => ⟨rfl, _, (fun v' h => by cases h; rfl), ha, hW⟩
        · -- 8
          intro D ρ w879 hcD hnD hdD hW
          have zhW := hW.size
          have E881 := E24.next hW (fun _ _ h => h.elim)
          refine ⟨[(19, .bool false), (23, .slice av vs.length cv), (24, .int .i64 (i : Int))], ⟨.inl ⟨2, some (.bool false), rfl, rfl, rfl⟩, .inl ⟨6, some (.slice av vs.length cv), rfl, rfl, rfl⟩, .inl ⟨7, some (.int .i64 (i : Int)), rfl, rfl, rfl⟩, trivial⟩, fun Lr => ?_⟩
          show WL _ _ _ _ _ _ _ ((19, .bool false) :: (23, .slice av vs.length cv) :: (24, .int .i64 (i : Int)) :: Lr) _
          have D882 := (((D14.keep u19 (fun _ _ h => h)).keep u22 (fun i hi => show ¬ (i = bk16) by omega)).keep hW (fun _ _ h => h))
          have i883 : i < vs.length := (by omega)
          refine t_index (j := i) Try.underlying34 Try.sizeOf48 rfl rfl rfl rfl (D882.vsl.addr (by omega)) rfl i883 ?_
          refine t_nil' ?_
          exact fun a ha => ⟨rfl, _, (fun v' h => by cases h; rfl), ha, hW⟩
        · exact fun D ρ w hcD hnD hdD hW => ⟨[(19, .bool false), (25, .pointer (some ⟨bv, ov + i * 5, none⟩))], ⟨.inl ⟨2, some (.bool false), rfl, rfl, rfl⟩, .inl ⟨8, some (.pointer (some ⟨bv, ov + i * 5, none⟩)), rfl, rfl, rfl⟩, trivial⟩, fun Lr => t_field Try.underlying48 rfl Try.sizeOf3 (ov + i * 5 + 4) rfl rfl rfl rfl (t_nil' fun a ha => ⟨rfl, _, (fun v' h => by cases h; rfl), ha, hW⟩)⟩
        · -- 10
          intro D ρ w884 hcD hnD hdD hW
          have zhW := hW.size
          have E886 := E24.next hW (fun _ _ h => h.elim)
          refine ⟨[(19, .bool false), (26, .pointer (some ⟨bv, ov + i * 5 + 4, none⟩))], ⟨.inl ⟨2, some (.bool false), rfl, rfl, rfl⟩, .inl ⟨9, some (.pointer (some ⟨bv, ov + i * 5 + 4, none⟩)), rfl, rfl, rfl⟩, trivial⟩, fun Lr => ?_⟩
          show WL _ _ _ _ _ _ _ ((19, .bool false) :: (26, .pointer (some ⟨bv, ov + i * 5 + 4, none⟩)) :: Lr) _
          have D887 := (((D14.keep u19 (fun _ _ h => h)).keep u22 (fun i hi => show ¬ (i = bk16) by omega)).keep hW (fun _ _ h => h))
          refine t_load Try.isAgg3 rfl rfl rfl ((D887.vsl.at_ i (by omega)) 4 _ rfl) ?_
          refine t_nil' ?_
          exact fun a ha => ⟨rfl, _, (fun v' h => by cases h; rfl), ha, hW⟩
        · -- 11
          intro D ρ w888 hcD hnD hdD hW
          have zhW := hW.size
          have E890 := E24.next hW (fun _ _ h => h.elim)
          refine ⟨[(1, .pointer (some ⟨b3, 0, none⟩)), (19, .bool false)], ⟨.inr ⟨rfl, rfl⟩, .inl ⟨2, some (.bool false), rfl, rfl, rfl⟩, trivial⟩, fun Lr => ?_⟩
          show WL _ _ _ _ _ _ _ ((1, .pointer (some ⟨b3, 0, none⟩)) :: (19, .bool false) :: Lr) _
          have B891 := ((((h3.keep u4 (show ¬ (T b3) by first | omega | assumption)).keep u19 (fun h => h)).keep u22 (show ¬ (b3 = bk16) by first | omega | assumption)).keep hW (fun h => h))
          refine t_load Try.isAgg124 rfl rfl rfl (B891.get rfl) ?_
          refine t_nil' ?_
          exact fun a ha => ⟨rfl, _, (fun v' h => by cases h; rfl), ha, hW⟩
        · exact fun D ρ w hcD hnD hdD hW => ⟨[(19, .bool false), (28, .pointer (some ⟨t, 0, none⟩))], ⟨.inl ⟨2, some (.bool false), rfl, rfl, rfl⟩, .inl ⟨11, some (.pointer (some ⟨t, 0, none⟩)), rfl, rfl, rfl⟩, trivial⟩, fun Lr => t_nilchk rfl rfl rfl (t_nil' fun a ha => ⟨rfl, _, (fun v' h => by cases h; rfl), ha, hW⟩)⟩
        · exact fun D ρ w hcD hnD hdD hW => ⟨[(19, .bool false), (29, .pointer (some ⟨t, 0, none⟩))], ⟨.inl ⟨2, some (.bool false), rfl, rfl, rfl⟩, .inl ⟨12, some (.pointer (some ⟨t, 0, none⟩)), rfl, rfl, rfl⟩, trivial⟩, fun Lr => t_field Try.underlying160 rfl Try.sizeOf34 (0) rfl rfl rfl rfl (t_nil' fun a ha => ⟨rfl, _, (fun v' h => by cases h; rfl), ha, hW⟩)⟩
        · -- 14
          intro D ρ w892 hcD hnD hdD hW
          have zhW := hW.size
          have E894 := E24.next hW (fun _ _ h => h.elim)
          refine ⟨[(19, .bool false), (30, .pointer (some ⟨t, 0, none⟩))], ⟨.inl ⟨2, some (.bool false), rfl, rfl, rfl⟩, .inl ⟨13, some (.pointer (some ⟨t, 0, none⟩)), rfl, rfl, rfl⟩, trivial⟩, fun Lr => ?_⟩
          show WL _ _ _ _ _ _ _ ((19, .bool false) :: (30, .pointer (some ⟨t, 0, none⟩)) :: Lr) _
          have B895 := ((((htb.keep u4 (show ¬ (T t) by first | omega | assumption)).keep u19 (fun h => h)).keep u22 (show ¬ (t = bk16) by first | omega | assumption)).keep hW (fun h => h))
          refine t_load Try.isAgg34 rfl rfl rfl (B895.get rfl) ?_
          refine t_nil' ?_
          exact fun a ha => ⟨rfl, _, (fun v' h => by cases h; rfl), ha, hW⟩
        · -- 15
          intro D ρ w896 hcD hnD hdD hW
          have zhW := hW.size
          have E898 := E24.next hW (fun _ _ h => h.elim)
          refine ⟨[(3, .pointer (some ⟨b5, 0, none⟩)), (19, .bool false)], ⟨.inr ⟨rfl, rfl⟩, .inl ⟨2, some (.bool false), rfl, rfl, rfl⟩, trivial⟩, fun Lr => ?_⟩
          show WL _ _ _ _ _ _ _ ((3, .pointer (some ⟨b5, 0, none⟩)) :: (19, .bool false) :: Lr) _
          have B899 := ((((h5.keep u4 (show ¬ (T b5) by first | omega | assumption)).keep u19 (fun h => h)).keep u22 (show ¬ (b5 = bk16) by first | omega | assumption)).keep hW (fun h => h))
          refine t_load Try.isAgg3 rfl rfl rfl (B899.get rfl) ?_
          refine t_nil' ?_
          exact fun a ha => ⟨rfl, _, (fun v' h => by cases h; rfl), ha, hW⟩
        · -- 16
          intro D ρ w900 hcD hnD hdD hW
          have zhW := hW.size
          have E902 := E24.next hW (fun _ _ h => h.elim)
          refine ⟨[(19, .bool false), (31, .slice av vs.length cv), (32, .int .i64 (j : Int))], ⟨.inl ⟨2, some (.bool false), rfl, rfl, rfl⟩, .inl ⟨14, some (.slice av vs.length cv), rfl, rfl, rfl⟩, .inl ⟨15, some (.int .i64 (j : Int)), rfl, rfl, rfl⟩, trivial⟩, fun Lr => ?_⟩
          show WL _ _ _ _ _ _ _ ((19, .bool false) :: (31, .slice av vs.length cv) :: (32, .int .i64 (j : Int)) :: Lr) _
          have D903 := (((D14.keep u19 (fun _ _ h => h)).keep u22 (fun i hi => show ¬ (i = bk16) by omega)).keep hW (fun _ _ h => h))
          have i904 : j < vs.length := (by omega)
          refine t_index (j := j) Try.underlying34 Try.sizeOf48 rfl rfl rfl rfl (D903.vsl.addr (by omega)) rfl i904 ?_
          refine t_nil' ?_
          exact fun a ha => ⟨rfl, _, (fun v' h => by cases h; rfl), ha, hW⟩
        · exact fun D ρ w hcD hnD hdD hW => ⟨[(19, .bool false), (33, .pointer (some ⟨bv, ov + j * 5, none⟩))], ⟨.inl ⟨2, some (.bool false), rfl, rfl, rfl⟩, .inl ⟨16, some (.pointer (some ⟨bv, ov + j * 5, none⟩)), rfl, rfl, rfl⟩, trivial⟩, fun Lr => t_field Try.underlying48 rfl Try.sizeOf3 (ov + j * 5 + 4) rfl rfl rfl rfl (t_nil' fun a ha => ⟨rfl, _, (fun v' h => by cases h; rfl), ha, hW⟩)⟩
        · -- 18
          intro D ρ w905 hcD hnD hdD hW
          have zhW := hW.size
          have E907 := E24.next hW (fun _ _ h => h.elim)
          refine ⟨[(19, .bool false), (34, .pointer (some ⟨bv, ov + j * 5 + 4, none⟩))], ⟨.inl ⟨2, some (.bool false), rfl, rfl, rfl⟩, .inl ⟨17, some (.pointer (some ⟨bv, ov + j * 5 + 4, none⟩)), rfl, rfl, rfl⟩, trivial⟩, fun Lr => ?_⟩
          show WL _ _ _ _ _ _ _ ((19, .bool false) :: (34, .pointer (some ⟨bv, ov + j * 5 + 4, none⟩)) :: Lr) _
          have D908 := (((D14.keep u19 (fun _ _ h => h)).keep u22 (fun i hi => show ¬ (i = bk16) by omega)).keep hW (fun _ _ h => h))
          refine t_load Try.isAgg3 rfl rfl rfl ((D908.vsl.at_ j (by omega)) 4 _ rfl) ?_
          refine t_nil' ?_
          exact fun a ha => ⟨rfl, _, (fun v' h => by cases h; rfl), ha, hW⟩
        · -- 19
          intro D ρ w909 hcD hnD hdD hW
          have zhW := hW.size
          have E911 := E24.next hW (fun _ _ h => h.elim)
          refine ⟨[(19, .bool false), (27, .int .i64 ((nth vs i).v.wid)), (35, .int .i64 ((nth vs j).v.wid))], ⟨.inl ⟨2, some (.bool false), rfl, rfl, rfl⟩, .inl ⟨10, some (.int .i64 ((nth vs i).v.wid)), rfl, rfl, rfl⟩, .inl ⟨18, some (.int .i64 ((nth vs j).v.wid)), rfl, rfl, rfl⟩, trivial⟩, fun Lr => ?_⟩
          show WL _ _ _ _ _ _ _ ((19, .bool false) :: (27, .int .i64 ((nth vs i).v.wid)) :: (35, .int .i64 ((nth vs j).v.wid)) :: Lr) _
          refine t_ari rfl rfl rfl rfl rfl (by omega) ?_
          refine t_nil' ?_
          exact fun a ha => ⟨rfl, _, (fun v' h => by cases h; rfl), ha, hW⟩
        · exact fun D ρ w hcD hnD hdD hW => ⟨[(6, .pointer (some ⟨bk16, 0, none⟩)), (19, .bool false)], ⟨.inr ⟨rfl, rfl⟩, .inl ⟨2, some (.bool false), rfl, rfl, rfl⟩, trivial⟩, fun Lr => t_field Try.underlying72 rfl Try.sizeOf3 (2) rfl rfl rfl rfl (t_nil' fun a ha => ⟨rfl, _, (fun v' h => by cases h; rfl), ha, hW⟩)⟩
        · -- 21
          intro D ρ w912 hcD hnD hdD hW
          have zhW := hW.size
          have E914 := E24.next hW (fun _ _ h => h.elim)
          refine ⟨[(19, .bool false), (37, .pointer (some ⟨bk16, 2, none⟩))], ⟨.inl ⟨2, some (.bool false), rfl, rfl, rfl⟩, .inl ⟨20, some (.pointer (some ⟨bk16, 2, none⟩)), rfl, rfl, rfl⟩, trivial⟩, fun Lr => ?_⟩
          show WL _ _ _ _ _ _ _ ((19, .bool false) :: (37, .pointer (some ⟨bk16, 2, none⟩)) :: Lr) _
          have B915 := (B23.keep hW (fun h => h))
          refine t_load Try.isAgg3 rfl rfl rfl (B915.get rfl) ?_
          refine t_nil' ?_
          exact fun a ha => ⟨rfl, _, (fun v' h => by cases h; rfl), ha, hW⟩
        · exact fun D ρ w hcD hnD hdD hW => ⟨[(19, .bool false), (36, .int .i64 ((nth vs i).v.wid + ((nth vs j).v.wid))), (38, .int .i64 ((nth ns k).wid))], ⟨.inl ⟨2, some (.bool false), rfl, rfl, rfl⟩, .inl ⟨19, some (.int .i64 ((nth vs i).v.wid + ((nth vs j).v.wid))), rfl, rfl, rfl⟩, .inl ⟨21, some (.int .i64 ((nth ns k).wid)), rfl, rfl, rfl⟩, trivial⟩, fun Lr => t_cmp rfl rfl rfl rfl rfl (t_nil' fun a ha => ⟨rfl, _, (fun v' h => by cases h; rfl), ha, hW⟩)⟩
        · exact fun D ρ w hcD hnD hdD hW => ⟨[(19, .bool false), (39, .bool (decide ((nth ns k).wid < ((nth vs i).v.wid + ((nth vs j).v.wid)))))], ⟨.inl ⟨2, some (.bool false), rfl, rfl, rfl⟩, .inl ⟨22, some (.bool (decide ((nth ns k).wid < ((nth vs i).v.wid + ((nth vs j).v.wid))))), rfl, rfl, rfl⟩, trivial⟩, fun Lr => t_pick_f rfl rfl rfl rfl (t_nil' fun a ha => ⟨rfl, _, (fun v' h => by cases h; rfl), ha, hW⟩)⟩
        · exact fun D ρ w hcD hnD hdD hW => ⟨[(40, .bool (decide ((nth ns k).wid < ((nth vs i).v.wid + ((nth vs j).v.wid)))))], ⟨.inl ⟨23, some (.bool (decide ((nth ns k).wid < ((nth vs i).v.wid + ((nth vs j).v.wid))))), rfl, rfl, rfl⟩, trivial⟩, fun Lr => t_move rfl rfl rfl (t_samehd (v := .bool false) (by simp [g41]) (t_nil' fun a ha => ⟨rfl, _, (fun v' h => by cases h; rfl), ha, hW⟩))⟩
        · exact fun D ρ w hcD hnD hdD hW => ⟨[(1, .pointer (some ⟨b3, 0, none⟩)), (41, .bool false)], ⟨.inr ⟨rfl, rfl⟩, .inl ⟨24, some (.bool false), rfl, rfl, rfl⟩, trivial⟩, fun Lr => t_skip rfl rfl rfl (t_nil' fun a ha => ⟨rfl, _, (fun v' h => by cases h; rfl), ha, hW⟩)⟩
        · exact fun D ρ w hcD hnD hdD hW => ⟨[(41, .bool false), (42, undef)], ⟨.inl ⟨24, some (.bool false), rfl, rfl, rfl⟩, .inl ⟨25, some (undef), rfl, rfl, rfl⟩, trivial⟩, fun Lr => t_skip rfl rfl rfl (t_nil' fun a ha => ⟨rfl, _, (fun v' h => by cases h; rfl), ha, hW⟩)⟩
        · exact fun D ρ w hcD hnD hdD hW => ⟨[(41, .bool false), (43, undef)], ⟨.inl ⟨24, some (.bool false), rfl, rfl, rfl⟩, .inl ⟨26, some (undef), rfl, rfl, rfl⟩, trivial⟩, fun Lr => t_skip rfl rfl rfl (t_nil' fun a ha => ⟨rfl, _, (fun v' h => by cases h; rfl), ha, hW⟩)⟩
        · exact fun D ρ w hcD hnD hdD hW => ⟨[(41, .bool false), (44, undef)], ⟨.inl ⟨24, some (.bool false), rfl, rfl, rfl⟩, .inl ⟨27, some (undef), rfl, rfl, rfl⟩, trivial⟩, fun Lr => t_skip rfl rfl rfl (t_nil' fun a ha => ⟨rfl, _, (fun v' h => by cases h; rfl), ha, hW⟩)⟩
        · exact fun D ρ w hcD hnD hdD hW => ⟨[(2, .pointer (some ⟨b4, 0, none⟩)), (41, .bool false)], ⟨.inr ⟨rfl, rfl⟩, .inl ⟨24, some (.bool false), rfl, rfl, rfl⟩, trivial⟩, fun Lr => t_skip rfl rfl rfl (t_nil' fun a ha => ⟨rfl, _, (fun v' h => by cases h; rfl), ha, hW⟩)⟩
        · exact fun D ρ w hcD hnD hdD hW => ⟨[(41, .bool false), (45, undef), (46, undef)], ⟨.inl ⟨24, some (.bool false), rfl, rfl, rfl⟩, .inl ⟨28, some (undef), rfl, rfl, rfl⟩, .inl ⟨29, some (undef), rfl, rfl, rfl⟩, trivial⟩, fun Lr => t_skip rfl rfl rfl (t_nil' fun a ha => ⟨rfl, _, (fun v' h => by cases h; rfl), ha, hW⟩)⟩
        · exact fun D ρ w hcD hnD hdD hW => ⟨[(41, .bool false), (47, undef)], ⟨.inl ⟨24, some (.bool false), rfl, rfl, rfl⟩, .inl ⟨30, some (undef), rfl, rfl, rfl⟩, trivial⟩, fun Lr => t_skip rfl rfl rfl (t_nil' fun a ha => ⟨rfl, _, (fun v' h => by cases h; rfl), ha, hW⟩)⟩
        · exact fun D ρ w hcD hnD hdD hW => ⟨[(5, .int .i64 (k : Int)), (41, .bool false)], ⟨.inr ⟨rfl, rfl⟩, .inl ⟨24, some (.bool false), rfl, rfl, rfl⟩, trivial⟩, fun Lr => t_skip rfl rfl rfl (t_nil' fun a ha => ⟨rfl, _, (fun v' h => by cases h; rfl), ha, hW⟩)⟩
        · exact fun D ρ w hcD hnD hdD hW => ⟨[(41, .bool false), (48, undef), (49, undef)], ⟨.inl ⟨24, some (.bool false), rfl, rfl, rfl⟩, .inl ⟨31, some (undef), rfl, rfl, rfl⟩, .inl ⟨32, some (undef), rfl, rfl, rfl⟩, trivial⟩, fun Lr => t_skip rfl rfl rfl (t_nil' fun a ha => ⟨rfl, _, (fun v' h => by cases h; rfl), ha, hW⟩)⟩
        · exact fun D ρ w hcD hnD hdD hW => ⟨[(41, .bool false), (50, undef)], ⟨.inl ⟨24, some (.bool false), rfl, rfl, rfl⟩, .inl ⟨33, some (undef), rfl, rfl, rfl⟩, trivial⟩, fun Lr => t_skip rfl rfl rfl (t_nil' fun a ha => ⟨rfl, _, (fun v' h => by cases h; rfl), ha, hW⟩)⟩
        · exact fun D ρ w hcD hnD hdD hW => ⟨[(41, .bool false), (51, undef)], ⟨.inl ⟨24, some (.bool false), rfl, rfl, rfl⟩, .inl ⟨34, some (undef), rfl, rfl, rfl⟩, trivial⟩, fun Lr => t_skip rfl rfl rfl (t_nil' fun a ha => ⟨rfl, _, (fun v' h => by cases h; rfl), ha, hW⟩)⟩
        · exact fun D ρ w hcD hnD hdD hW => ⟨[(41, .bool false), (52, undef)], ⟨.inl ⟨24, some (.bool false), rfl, rfl, rfl⟩, .inl ⟨35, some (undef), rfl, rfl, rfl⟩, trivial⟩, fun Lr => t_pick_f rfl rfl rfl rfl (t_nil' fun a ha => ⟨rfl, _, (fun v' h => by cases h; rfl), ha, hW⟩)⟩
        · exact fun D ρ w hcD hnD hdD hW => ⟨[(53, .bool false)], ⟨.inl ⟨36, some (.bool false), rfl, rfl, rfl⟩, trivial⟩, fun Lr => t_move rfl rfl rfl (t_nil' fun a ha => ⟨rfl, _, (fun v' h => by cases h; rfl), ha, hW⟩)⟩
        · exact fun D ρ w hcD hnD hdD hW => ⟨[(1, .pointer (some ⟨b3, 0, none⟩)), (54, .bool false)], ⟨.inr ⟨rfl, rfl⟩, .inl ⟨37, some (.bool false), rfl, rfl, rfl⟩, trivial⟩, fun Lr => t_skip rfl rfl rfl (t_nil' fun a ha => ⟨rfl, _, (fun v' h => by cases h; rfl), ha, hW⟩)⟩
        · exact fun D ρ w hcD hnD hdD hW => ⟨[(54, .bool false), (55, undef)], ⟨.inl ⟨37, some (.bool false), rfl, rfl, rfl⟩, .inl ⟨38, some (undef), rfl, rfl, rfl⟩, trivial⟩, fun Lr => t_skip rfl rfl rfl (t_nil' fun a ha => ⟨rfl, _, (fun v' h => by cases h; rfl), ha, hW⟩)⟩
        · exact fun D ρ w hcD hnD hdD hW => ⟨[(54, .bool false), (56, undef)], ⟨.inl ⟨37, some (.bool false), rfl, rfl, rfl⟩, .inl ⟨39, some (undef), rfl, rfl, rfl⟩, trivial⟩, fun Lr => t_skip rfl rfl rfl (t_nil' fun a ha => ⟨rfl, _, (fun v' h => by cases h; rfl), ha, hW⟩)⟩
        · exact fun D ρ w hcD hnD hdD hW => ⟨[(54, .bool false), (57, undef)], ⟨.inl ⟨37, some (.bool false), rfl, rfl, rfl⟩, .inl ⟨40, some (undef), rfl, rfl, rfl⟩, trivial⟩, fun Lr => t_skip rfl rfl rfl (t_nil' fun a ha => ⟨rfl, _, (fun v' h => by cases h; rfl), ha, hW⟩)⟩
        · exact fun D ρ w hcD hnD hdD hW => ⟨[(3, .pointer (some ⟨b5, 0, none⟩)), (54, .bool false)], ⟨.inr ⟨rfl, rfl⟩, .inl ⟨37, some (.bool false), rfl, rfl, rfl⟩, trivial⟩, fun Lr => t_skip rfl rfl rfl (t_nil' fun a ha => ⟨rfl, _, (fun v' h => by cases h; rfl), ha, hW⟩)⟩
        · exact fun D ρ w hcD hnD hdD hW => ⟨[(54, .bool false), (58, undef), (59, undef)], ⟨.inl ⟨37, some (.bool false), rfl, rfl, rfl⟩, .inl ⟨41, some (undef), rfl, rfl, rfl⟩, .inl ⟨42, some (undef), rfl, rfl, rfl⟩, trivial⟩, fun Lr => t_skip rfl rfl rfl (t_nil' fun a ha => ⟨rfl, _, (fun v' h => by cases h; rfl), ha, hW⟩)⟩
        · exact fun D ρ w hcD hnD hdD hW => ⟨[(54, .bool false), (60, undef)], ⟨.inl ⟨37, some (.bool false), rfl, rfl, rfl⟩, .inl ⟨43, some (undef), rfl, rfl, rfl⟩, trivial⟩, fun Lr => t_skip rfl rfl rfl (t_nil' fun a ha => ⟨rfl, _, (fun v' h => by cases h; rfl), ha, hW⟩)⟩
        · exact fun D ρ w hcD hnD hdD hW => ⟨[(5, .int .i64 (k : Int)), (54, .bool false)], ⟨.inr ⟨rfl, rfl⟩, .inl ⟨37, some (.bool false), rfl, rfl, rfl⟩, trivial⟩, fun Lr => t_skip rfl rfl rfl (t_nil' fun a ha => ⟨rfl, _, (fun v' h => by cases h; rfl), ha, hW⟩)⟩
        · exact fun D ρ w hcD hnD hdD hW => ⟨[(54, .bool false), (61, undef), (62, undef)], ⟨.inl ⟨37, some (.bool false), rfl, rfl, rfl⟩, .inl ⟨44, some (undef), rfl, rfl, rfl⟩, .inl ⟨45, some (undef), rfl, rfl, rfl⟩, trivial⟩, fun Lr => t_skip rfl rfl rfl (t_nil' fun a ha => ⟨rfl, _, (fun v' h => by cases h; rfl), ha, hW⟩)⟩
        · exact fun D ρ w hcD hnD hdD hW => ⟨[(54, .bool false), (63, undef)], ⟨.inl ⟨37, some (.bool false), rfl, rfl, rfl⟩, .inl ⟨46, some (undef), rfl, rfl, rfl⟩, trivial⟩, fun Lr => t_skip rfl rfl rfl (t_nil' fun a ha => ⟨rfl, _, (fun v' h => by cases h; rfl), ha, hW⟩)⟩
        · exact fun D ρ w hcD hnD hdD hW => ⟨[(54, .bool false), (64, undef)], ⟨.inl ⟨37, some (.bool false), rfl, rfl, rfl⟩, .inl ⟨47, some (undef), rfl, rfl, rfl⟩, trivial⟩, fun Lr => t_skip rfl rfl rfl (t_nil' fun a ha => ⟨rfl, _, (fun v' h => by cases h; rfl), ha, hW⟩)⟩
        · exact fun D ρ w hcD hnD hdD hW => ⟨[(54, .bool false), (65, undef)], ⟨.inl ⟨37, some (.bool false), rfl, rfl, rfl⟩, .inl ⟨48, some (undef), rfl, rfl, rfl⟩, trivial⟩, fun Lr => t_pick_f rfl rfl rfl rfl (t_nil' fun a ha => ⟨rfl, _, (fun v' h => by cases h; rfl), ha, hW⟩)⟩
        · exact fun D ρ w hcD hnD hdD hW => ⟨[(66, .bool false)], ⟨.inl ⟨49, some (.bool false), rfl, rfl, rfl⟩, trivial⟩, fun Lr => t_move rfl rfl rfl (t_nil' fun a ha => ⟨rfl, _, (fun v' h => by cases h; rfl), ha, hW⟩)⟩
        · exact fun D ρ w hcD hnD hdD hW => ⟨[(0, .func (.yield l) #[] #[]), (67, .bool false)], ⟨.inr ⟨rfl, rfl⟩, .inl ⟨50, some (.bool false), rfl, rfl, rfl⟩, trivial⟩, fun Lr => t_skip rfl rfl rfl (t_nil' fun a ha => ⟨rfl, _, (fun v' h => by cases h; rfl), ha, hW⟩)⟩
        · exact fun D ρ w hcD hnD hdD hW => ⟨[(5, .int .i64 (k : Int)), (67, .bool false)], ⟨.inr ⟨rfl, rfl⟩, .inl ⟨50, some (.bool false), rfl, rfl, rfl⟩, trivial⟩, fun Lr => t_skip rfl rfl rfl (t_nil' fun a ha => ⟨rfl, _, (fun v' h => by cases h; rfl), ha, hW⟩)⟩
        · exact fun D ρ w hcD hnD hdD hW => ⟨[(67, .bool false), (68, undef), (69, undef)], ⟨.inl ⟨50, some (.bool false), rfl, rfl, rfl⟩, .inl ⟨51, some (undef), rfl, rfl, rfl⟩, .inl ⟨52, some (undef), rfl, rfl, rfl⟩, trivial⟩, fun Lr => t_skip rfl rfl rfl (t_nil' fun a ha => ⟨rfl, _, (fun v' h => by cases h; rfl), ha, hW⟩)⟩
        · exact fun D ρ w hcD hnD hdD hW => ⟨[(67, .bool false), (70, undef)], ⟨.inl ⟨50, some (.bool false), rfl, rfl, rfl⟩, .inl ⟨53, some (undef), rfl, rfl, rfl⟩, trivial⟩, fun Lr => t_skip rfl rfl rfl (t_nil' fun a ha => ⟨rfl, _, (fun v' h => by cases h; rfl), ha, hW⟩)⟩
        · exact fun D ρ w hcD hnD hdD hW => ⟨[(67, .bool false), (71, undef)], ⟨.inl ⟨50, some (.bool false), rfl, rfl, rfl⟩, .inl ⟨54, some (undef), rfl, rfl, rfl⟩, trivial⟩, fun Lr => t_pick_f rfl rfl rfl rfl (t_nil' fun a ha => ⟨rfl, _, (fun v' h => by cases h; rfl), ha, hW⟩)⟩
        intro ρ w916 hW
        have u917 : Upd (fun _ => False) w21 w916 := hW
        have zu917 := u917.size
        have E918 := E24.next u917 (fun _ _ h => h.elim)
        refine QK.weak [(0, .func (.yield l) #[] #[]), (1, .pointer (some ⟨b3, 0, none⟩)), (2, .pointer (some ⟨b4, 0, none⟩)), (3, .pointer (some ⟨b5, 0, none⟩)), (5, .int .i64 (k : Int)), (6, .pointer (some ⟨bk16, 0, none⟩)), (10, .slice an ns.length cn), (11, .int .i64 (ns.length : Int)), (12, .int .i64 (k : Int)), (13, .bool (decide ((k : Int) < (ns.length : Int)))), (14, .int .i64 (k : Int)), (15, .pointer (some ⟨bn, on + k * 4, none⟩)), (16, .agg #[.int .i64 ((nth ns k).frm), .int .i64 ((nth ns k).to), .int .i64 ((nth ns k).wid), .bool ((nth ns k).single)]), (17, .pointer (some ⟨bk16, 3, none⟩)), (18, .bool ((nth ns k).single)), (19, .bool false), (20, .pointer (some ⟨t, 0, none⟩)), (21, .pointer (some ⟨t, 0, none⟩)), (22, .pointer (some ⟨t, 0, none⟩)), (23, .slice av vs.length cv), (24, .int .i64 (i : Int)), (25, .pointer (some ⟨bv, ov + i * 5, none⟩)), (26, .pointer (some ⟨bv, ov + i * 5 + 4, none⟩)), (27, .int .i64 ((nth vs i).v.wid)), (28, .pointer (some ⟨t, 0, none⟩)), (29, .pointer (some ⟨t, 0, none⟩)), (30, .pointer (some ⟨t, 0, none⟩)), (31, .slice av vs.length cv), (32, .int .i64 (j : Int)), (33, .pointer (some ⟨bv, ov + j * 5, none⟩)), (34, .pointer (some ⟨bv, ov + j * 5 + 4, none⟩)), (35, .int .i64 ((nth vs j).v.wid)), (36, .int .i64 ((nth vs i).v.wid + ((nth vs j).v.wid))), (37, .pointer (some ⟨bk16, 2, none⟩)), (38, .int .i64 ((nth ns k).wid)), (39, .bool (decide ((nth ns k).wid < ((nth vs i).v.wid + ((nth vs j).v.wid))))), (40, .bool (decide ((nth ns k).wid < ((nth vs i).v.wid + ((nth vs j).v.wid))))), (41, .bool false), (53, .bool false), (54, .bool false), (66, .bool false), (67, .bool false), (72, .bool false)] ⟨rfl, rfl, rfl, rfl, rfl, rfl, rfl, rfl, rfl, rfl, rfl, rfl, rfl, rfl, rfl, rfl, rfl, rfl, rfl, rfl, rfl, rfl, rfl, rfl, rfl, rfl, rfl, rfl, rfl, rfl, rfl, rfl, rfl, rfl, rfl, rfl, rfl, rfl, rfl, rfl, rfl, rfl, rfl, trivial⟩ ?_
        refine hK25 _ _ ?_
        refine c_cond_f rfl ?_
        refine c_skip ?_
        refine hK12 _ _ ?_
        refine c_region ?_
        refine t_ari rfl rfl rfl rfl rfl (by omega) ?_
        refine t_move rfl rfl rfl ?_
        refine t_nil' ?_
        exact hK2 (k + 1, pre) _ _ (by show ns.length - (k + 1) < ns.length - k; omega) ⟨rfl, rfl, rfl, rfl, rfl, rfl, rfl, trivial⟩ ⟨(((u4.next u19 (fun _ _ h => h.elim)).next u22 (fun i hi (h : i = bk16) => show T i by first | omega | assumption)).next u917 (fun _ _ h => h.elim)), (by omega), (by rw [filter_succ, if_neg (by simp [barB, g19, g41])]; simpa using hpre), (by show pre.length ≤ (k + 1); omega), (hJ _ _ _ none hJk (Ext.grownBy ((((Upd.refl (fun _ => False) _).next u19 (fun _ _ h => h.elim)).next u22 (fun i hi (h : i = bk16) => show False by first | omega | assumption)).next u917 (fun _ _ h => h.elim))) (fun r e => by cases e))⟩
  · -- not .bool (decide ((k : Int) < (ns.length : Int)))
    refine c_exit ?_
    refine f_ret0 Try.results108 ?_
    exact ⟨_, rfl, .inl ⟨pre, (by rw [hpre, show k = ns.length from by omega]), hJk⟩⟩

end Go.Proofs.Ytmicjleiheoieaa
