/-
  Contracts of the holds of traffic. Conditions: none.
-/
import Derived.Test.YtmicjleiheoieaaA8
namespace Go.Proofs.Ytmicjleiheoieaa
open Go Go.RowKit
theorem Traf.rowlen {lim t : Nat} {vs : List HVoy} {ns : List Nar} {rows : List HSt} {av an ar : Option Addr} {bv ov bn on br cv cn cr : Nat} {w : World} (h : Traf lim t vs ns rows av an ar bv ov bn on br cv cn cr w) : rows.length = vs.length := by
  have := congrArg List.length h.eq
  simpa using this
theorem Traf.row {lim t : Nat} {vs : List HVoy} {ns : List Nar} {rows : List HSt} {av an ar : Option Addr} {bv ov bn on br cv cn cr : Nat} {w : World} (h : Traf lim t vs ns rows av an ar bv ov bn on br cv cn cr w) {i : Nat} (hi : i < vs.length) : (nth rows i).ss = ns.map (thrS (nth vs i).v) := by
  have hl := h.rowlen
  have := congrArg (fun l => l[i]?) h.eq
  simp only [List.getElem?_map] at this
  rw [List.getElem?_eq_getElem (by omega), List.getElem?_eq_getElem hi] at this
  rw [nth_eq (by omega), nth_eq hi]
  simpa using this
/-- The two voyages must not meet in narrow k, and both come there. -/
def barB (vs : List HVoy) (ns : List Nar) (rows : List HSt) (i j k : Nat) : Bool :=
  ((nth ns k).single || decide ((nth ns k).wid < (nth vs i).v.wid + (nth vs j).v.wid)) && (nth (nth rows i).ss k).there && (nth (nth rows j).ss k).there
abbrev Ix (n : Nat) := { k : Nat // k < n }
def encIx {n : Nat} (k : Ix n) : Value := .int .i64 (k.1 : Int)
theorem filter_succ {p : Nat → Bool} (k : Nat) : (List.range (k + 1)).filter p = (List.range k).filter p ++ (if p k then [k] else []) := by
  rw [List.range_succ, List.filter_append]
  cases h : p k <;> simp [h]
theorem vals_snoc {n : Nat} {pre : List (Ix n)} {x : Ix n} {l : List Nat} (h : pre.map (·.1) = l) : (pre ++ [x]).map (·.1) = l ++ [x.1] := by rw [List.map_append, h]; rfl

theorem bars_c (t i j : Nat) (w0 : World) :
    CallsV Try.prog 88 [.pointer (some ⟨t, 0, none⟩), .int .i64 (i : Int), .int .i64 (j : Int)] w0 (fun v w' => (∃ b3 b4 b5, v = .func (.func 108) #[] #[.pointer (some ⟨b3, 0, none⟩), .pointer (some ⟨b4, 0, none⟩), .pointer (some ⟨b5, 0, none⟩)] ∧ w0.heap.size ≤ b3 ∧ w0.heap.size ≤ b4 ∧ w0.heap.size ≤ b5 ∧ Blk w' b3 124 [.pointer (some ⟨t, 0, none⟩)] ∧ Blk w' b4 3 [.int .i64 (i : Int)] ∧ Blk w' b5 3 [.int .i64 (j : Int)]) ∧ Ext w0 w') := by
 have E0 := Upd.refl (fun _ => False) w0
 refine f_enter (N := 8) Try.func88 rfl rfl rfl ?_
 change WC _ _ _ _ _ _ [(0, .pointer (some ⟨t, 0, none⟩)), (1, .int .i64 (i : Int)), (2, .int .i64 (j : Int))] _
 refine c_seq fun K1 hK1 => (c_region (t_box (cs := [.pointer (some ⟨t, 0, none⟩)]) rfl rfl rfl rfl (fun bk2 w3 ebk2 sbk2 B4 u5 => ?_)))
 have zu5 := u5.size
 have E6 := E0.next u5 (fun _ _ h => h.elim)
 refine t_box (cs := [.int .i64 (i : Int)]) rfl rfl rfl rfl (fun bk7 w8 ebk7 sbk7 B9 u10 => ?_)
 have zu10 := u10.size
 have E11 := E6.next u10 (fun _ _ h => h.elim)
 refine t_box (cs := [.int .i64 (j : Int)]) rfl rfl rfl rfl (fun bk12 w13 ebk12 sbk12 B14 u15 => ?_)
 have zu15 := u15.size
 have E16 := E11.next u15 (fun _ _ h => h.elim)
 refine t_assign rfl rfl rfl (t_nil' (hK1 _ _ (c_seq fun K17 hK17 => (c_region (t_mkfunc (vs := []) (us := [.pointer (some ⟨bk2, 0, none⟩), .pointer (some ⟨bk7, 0, none⟩), .pointer (some ⟨bk12, 0, none⟩)]) rfl rfl rfl rfl (t_assign rfl rfl rfl (t_nil' (hK17 _ _ (c_ret (f_ret1 (v := .func (.func 108) #[] #[.pointer (some ⟨bk2, 0, none⟩), .pointer (some ⟨bk7, 0, none⟩), .pointer (some ⟨bk12, 0, none⟩)]) Try.results88 rfl ?_))))))))))
 have B18 := ((B4.keep u10 (fun h => h)).keep u15 (fun h => h))
 have B19 := (B9.keep u15 (fun h => h))
 exact ⟨⟨_, _, _, rfl, by omega, by omega, by omega, B18, B19, B14⟩, E16⟩

set_option maxHeartbeats 4000000 in
theorem bars1_c (lim t : Nat) (vs : List HVoy) (ns : List Nar) (rows : List HSt) (av an ar : Option Addr) (bv ov bn on br cv cn cr : Nat) (i j b3 b4 b5 l m : Nat) (T : Nat → Prop) (J Jx : List (Ix ns.length) → World → Prop) (w0 : World) (htr : Traf lim t vs ns rows av an ar bv ov bn on br cv cn cr w0) (hi : i < vs.length) (hj : j < vs.length) (h3 : Blk w0 b3 124 [.pointer (some ⟨t, 0, none⟩)]) (h4 : Blk w0 b4 3 [.int .i64 (i : Int)]) (h5 : Blk w0 b5 3 [.int .i64 (j : Int)]) (hT : TrafOff T t vs ns rows bv bn br) (hT3 : ¬ T b3) (hT4 : ¬ T b4) (hT5 : ¬ T b5) (hJ : AbidesFrom w0.heap.size J) (hY : ∀ pre x W1, J pre W1 → pre.length < 21 → YieldAt Fence.wide m Try.prog l #[encIx x] W1 fun e W' => (e = .returned (.bool true) ∧ J (pre ++ [x]) W' ∧ Upd T W1 W') ∨ (e = .returned (.bool false) ∧ Jx (pre ++ [x]) W')) (hJ0 : J [] w0) :
    CallsV Try.prog 108 [.func (.yield l) #[] #[], .pointer (some ⟨b3, 0, none⟩), .pointer (some ⟨b4, 0, none⟩), .pointer (some ⟨b5, 0, none⟩)] w0 (fun v w' => ∃ u, v = u ∧ ((∃ xs : List (Ix ns.length), xs.map (·.1) = (List.range ns.length).filter (barB vs ns rows i j) ∧ J xs w') ∨ (∃ pre, Jx pre w'))) := by
 have l3 := h3.lt
 have l4 := h4.lt
 have l5 := h5.lt
 have lt0 := htr.blk.lt
 have hll := htr.ll
 have htl := htr.tl
 have hTt := hT.t
 have hrw := htr.rowlen
 have hri := congrArg List.length (htr.row hi)
 have hrj := congrArg List.length (htr.row hj)
 rw [List.length_map] at hri hrj
 have hfew := htr.few
 have htb := htr.blk
 have hwi := (okVoy_rng (htr.ok _ (nth_mem hi))).wid
 have hwj := (okVoy_rng (htr.ok _ (nth_mem hj))).wid
 refine f_enter (N := 74) Try.func108 rfl rfl rfl ?_
 change WC _ _ _ _ _ _ [(0, .func (.yield l) #[] #[]), (1, .pointer (some ⟨b3, 0, none⟩)), (2, .pointer (some ⟨b4, 0, none⟩)), (3, .pointer (some ⟨b5, 0, none⟩))] _
 refine c_seq fun K1 hK1 => (c_region (t_load Try.isAgg124 rfl rfl rfl (h3.get rfl) (t_nilchk rfl rfl rfl (t_field Try.underlying160 rfl Try.sizeOf35 (1) rfl rfl rfl rfl (t_load Try.isAgg35 rfl rfl rfl (htb.get rfl) (t_len Try.underlying35 rfl rfl rfl rfl (t_move rfl rfl rfl (t_nil' (hK1 _ _ (c_block (c_loop (γ := Nat × List (Ix ns.length)) (fun gg => [(0, .func (.yield l) #[] #[]), (1, .pointer (some ⟨b3, 0, none⟩)), (2, .pointer (some ⟨b4, 0, none⟩)), (3, .pointer (some ⟨b5, 0, none⟩)), (10, .slice an ns.length cn), (11, .int .i64 (ns.length : Int)), (12, .int .i64 (gg.1 : Int))]) (fun gg w => Upd (fun i => T i) w0 w ∧ (gg.1 ≤ ns.length) ∧ (gg.2.map (·.1) = (List.range gg.1).filter (barB vs ns rows i j)) ∧ (gg.2.length ≤ gg.1) ∧ (J gg.2 w)) (fun gg => ns.length - gg.1) (0, []) ⟨rfl, rfl, rfl, rfl, rfl, rfl, rfl, trivial⟩ ⟨Upd.refl _ _, (Nat.zero_le _), rfl, (Nat.le_refl _), hJ0⟩ ?_)))))))))))
 intro gg w3 hW K2 hK2
 obtain ⟨k, pre⟩ := gg
 change WC _ _ _ _ _ _ [(0, .func (.yield l) #[] #[]), (1, .pointer (some ⟨b3, 0, none⟩)), (2, .pointer (some ⟨b4, 0, none⟩)), (3, .pointer (some ⟨b5, 0, none⟩)), (10, .slice an ns.length cn), (11, .int .i64 (ns.length : Int)), (12, .int .i64 (k : Int))] _
 change Upd (fun i => T i) w0 w3 ∧ (k ≤ ns.length) ∧ (pre.map (·.1) = (List.range k).filter (barB vs ns rows i j)) ∧ (pre.length ≤ k) ∧ (J pre w3) at hW
 obtain ⟨u4, I5, I6, I7, I8⟩ := hW
 have zu4 := u4.size
 have hk := I5; clear I5
 have hpre := I6; clear I6
 have hpl := I7; clear I7
 have hJk := I8; clear I8
 refine c_seq fun K10 hK10 => (c_region (t_cmp rfl rfl rfl rfl rfl (t_nil' (hK10 _ _ (c_seq fun K11 hK11 => (c_condp rfl (fun g13 => ?_) (fun g13 => ?_)))))))
 ·
  refine c_skip (hK11 _ _ (c_seq fun K12 hK12 => (c_block (c_seq fun K13 hK13 => (c_region (t_move rfl rfl rfl ?_))))))
  have D14 := (htr.keepT u4 hT)
  have i15 : k < ns.length := (by omega)
  refine t_index (j := k) Try.underlying35 Try.sizeOf72 rfl rfl rfl rfl (D14.nsl.addr (by omega)) rfl i15 (t_loadN (vs := [.int .i64 ((nth ns k).frm), .int .i64 ((nth ns k).to), .int .i64 ((nth ns k).wid), .bool ((nth ns k).single)]) Try.isAgg72 Try.sizeOf72 rfl rfl rfl ((D14.nsl.at_ k (by omega)).sub 0 4) rfl (t_alloc (cs := [.int .i64 0, .int .i64 0, .int .i64 0, .bool false]) Try.zeroValue72 rfl rfl rfl (fun bk16 w17 ebk16 sbk16 B18 u19 => ?_)))
  have zu19 := u19.size
  refine t_assign rfl rfl rfl (t_store (vs := [.int .i64 ((nth ns k).frm), .int .i64 ((nth ns k).to), .int .i64 ((nth ns k).wid), .bool ((nth ns k).single)]) Try.sizeOf72 rfl rfl rfl B18 rfl rfl (Nat.le_of_ble_eq_true rfl) (by simp [Value.oneCell']) (fun w21 sw21 B23 u22 => ?_))
  have zu22 := u22.size
  have B23 : Blk w21 bk16 72 [.int .i64 ((nth ns k).frm), .int .i64 ((nth ns k).to), .int .i64 ((nth ns k).wid), .bool ((nth ns k).single)] := B23
  refine t_nil' (hK13 _ _ (c_seq fun K25 hK25 => ?_))
  have hkn : k < ns.length := by omega
  have hpl21 : pre.length < 21 := by omega
  have B26 := (((h3.keep u4 (show ¬ (T b3) by first | omega | assumption)).keep u19 (fun h => h)).keep u22 (show ¬ (b3 = bk16) by first | omega | assumption))
  have B27 := (((h4.keep u4 (show ¬ (T b4) by first | omega | assumption)).keep u19 (fun h => h)).keep u22 (show ¬ (b4 = bk16) by first | omega | assumption))
  have B28 := (((h5.keep u4 (show ¬ (T b5) by first | omega | assumption)).keep u19 (fun h => h)).keep u22 (show ¬ (b5 = bk16) by first | omega | assumption))
  rcases Bool.eq_false_or_eq_true ((nth ns k).single) with g19 | g19
  ·
   rcases Bool.eq_false_or_eq_true ((nth ((nth rows i).ss) k).there) with g54 | g54
   ·
    rcases Bool.eq_false_or_eq_true ((nth ((nth rows j).ss) k).there) with g67 | g67
    ·
     refine WC.weak [(0, .func (.yield l) #[] #[]), (1, .pointer (some ⟨b3, 0, none⟩)), (2, .pointer (some ⟨b4, 0, none⟩)), (3, .pointer (some ⟨b5, 0, none⟩)), (5, .int .i64 (k : Int)), (6, .pointer (some ⟨bk16, 0, none⟩)), (10, .slice an ns.length cn), (11, .int .i64 (ns.length : Int)), (12, .int .i64 (k : Int))] ⟨rfl, rfl, rfl, rfl, rfl, rfl, rfl, rfl, rfl, trivial⟩ (c_drawn followsS' 56 [some (17, some (.pointer (some ⟨bk16, 3, none⟩))), some (18, some (.bool ((nth ns k).single))), some (19, some (.bool true)), some (20, some (undef)), some (21, some (undef)), some (22, some (undef)), some (23, some (undef)), some (24, some (undef)), some (25, some (undef)), some (26, some (undef)), some (27, some (undef)), some (28, some (undef)), some (29, some (undef)), some (30, some (undef)), some (31, some (undef)), some (32, some (undef)), some (33, some (undef)), some (34, some (undef)), some (35, some (undef)), some (36, some (undef)), some (37, some (undef)), some (38, some (undef)), some (39, some (undef)), some (40, some (.bool true)), some (41, some (.bool true)), some (42, some (.pointer (some ⟨t, 0, none⟩))), some (43, some (.pointer (some ⟨t, 0, none⟩))), some (44, some (.pointer (some ⟨t, 2, none⟩))), some (45, some (.slice ar rows.length cr)), some (46, some (.int .i64 (i : Int))), some (47, some (.pointer (some ⟨br, 0 + i * 1, none⟩))), some (48, some (.slice ((nth rows i).ao) (((nth rows i).ss).length) ((nth rows i).cap))), some (49, some (.int .i64 (k : Int))), some (50, some (.pointer (some ⟨(nth rows i).g, 0 + k * 5, none⟩))), some (51, some (.pointer (some ⟨(nth rows i).g, 0 + k * 5 + 4, none⟩))), some (52, some (.bool ((nth ((nth rows i).ss) k).there))), some (53, some (.bool ((nth ((nth rows i).ss) k).there))), some (54, some (.bool true)), some (55, some (.pointer (some ⟨t, 0, none⟩))), some (56, some (.pointer (some ⟨t, 0, none⟩))), some (57, some (.pointer (some ⟨t, 2, none⟩))), some (58, some (.slice ar rows.length cr)), some (59, some (.int .i64 (j : Int))), some (60, some (.pointer (some ⟨br, 0 + j * 1, none⟩))), some (61, some (.slice ((nth rows j).ao) (((nth rows j).ss).length) ((nth rows j).cap))), some (62, some (.int .i64 (k : Int))), some (63, some (.pointer (some ⟨(nth rows j).g, 0 + k * 5, none⟩))), some (64, some (.pointer (some ⟨(nth rows j).g, 0 + k * 5 + 4, none⟩))), some (65, some (.bool ((nth ((nth rows j).ss) k).there))), some (66, some (.bool ((nth ((nth rows j).ss) k).there))), some (67, some (.bool true)), some (68, some (.func (.yield l) #[] #[])), some (69, some (.int .i64 (k : Int))), some (70, none), some (71, none), some (72, none)] [[],[0],[1],[2],[3,2],[4,2],[5,2],[2],[6,7,2],[8,2],[9,2],[2],[11,2],[12,2],[13,2],[2],[14,15,2],[16,2],[17,2],[10,18,2],[2],[20,2],[19,21,2],[2,22],[23,2],[24],[25,24],[26,24],[27,24],[24],[28,29,24],[30,24],[24],[31,32,24],[33,24],[34,24],[24,35],[36,24],[37],[38,37],[39,37],[40,37],[37],[41,42,37],[43,37],[37],[44,45,37],[46,37],[47,37],[37,48],[49,37],[50],[50],[51,52,50,50],[53,50],[50,54]] (fun D ρ w => (D 53 = false → Upd (fun _ => False) w21 w) ∧ (D 53 = true → ∃ yb, ρ 53 = .bool yb ∧ ((yb = true → J (pre ++ [⟨k, hkn⟩]) w ∧ Upd T w21 w) ∧ (yb = false → Jx (pre ++ [⟨k, hkn⟩]) w))) ∧ (D 54 = true → ∃ yb, ρ 53 = .bool yb ∧ ρ 54 = .bool (!yb)) ∧ (D 55 = true → ∃ yb, ρ 53 = .bool yb ∧ ρ 55 = .bool (!yb))) rfl rfl rfl (by kernel_rfl) (by kernel_rfl) ⟨(fun _ => (Upd.drew _).to), (fun h => by cases h), (fun h => by cases h), (fun h => by cases h)⟩ ⟨?_, ?_, ?_, ?_, ?_, ?_, ?_, ?_, ?_, ?_, ?_, ?_, ?_, ?_, ?_, ?_, ?_, ?_, ?_, ?_, ?_, ?_, ?_, ?_, ?_, ?_, ?_, ?_, ?_, ?_, ?_, ?_, ?_, ?_, ?_, ?_, ?_, ?_, ?_, ?_, ?_, ?_, ?_, ?_, ?_, ?_, ?_, ?_, ?_, ?_, ?_, ?_, ?_, ?_, ?_, ?_, trivial⟩ ?_)
     · exact pzf Try.underlying72 rfl Try.sizeOf4 (3) rfl rfl rfl rfl rfl fun _ _ _ h => h
     · exact fun D ρ w48 hcD hnD hdD hW => ⟨_, kf_fr [17], fun Lr => t_load Try.isAgg4 rfl rfl rfl ((B23.keep (hW.1 (hcD.late 53 (hcD.late 50 (hcD.late 37 (hcD.late 24 (hcD.late 2 hnD rfl) rfl) rfl) rfl) rfl)) (fun h => h)).get rfl) (dz rfl hW)⟩
     · exact fun D ρ w _ _ _ hW => ⟨[(18, .bool ((nth ns k).single))], ⟨fi 1 rfl rfl rfl, trivial⟩, fun Lr => t_move rfl rfl rfl (t_samehd (v := .bool true) (by first | exact congrArg Value.bool (decide_eq_true g19) | exact congrArg Value.bool g19 | simp [g19]) (dz rfl hW))⟩
     · exact pz rfl rfl rfl rfl fun _ _ _ h => h
     · exact pz rfl rfl rfl rfl fun _ _ _ h => h
     · exact pz rfl rfl rfl rfl fun _ _ _ h => h
     · exact pz rfl rfl rfl rfl fun _ _ _ h => h
     · exact pz rfl rfl rfl rfl fun _ _ _ h => h
     · exact pz rfl rfl rfl rfl fun _ _ _ h => h
     · exact pz rfl rfl rfl rfl fun _ _ _ h => h
     · exact pz rfl rfl rfl rfl fun _ _ _ h => h
     · exact pz rfl rfl rfl rfl fun _ _ _ h => h
     · exact pz rfl rfl rfl rfl fun _ _ _ h => h
     · exact pz rfl rfl rfl rfl fun _ _ _ h => h
     · exact pz rfl rfl rfl rfl fun _ _ _ h => h
     · exact pz rfl rfl rfl rfl fun _ _ _ h => h
     · exact pz rfl rfl rfl rfl fun _ _ _ h => h
     · exact pz rfl rfl rfl rfl fun _ _ _ h => h
     · exact pz rfl rfl rfl rfl fun _ _ _ h => h
     · exact pz rfl rfl rfl rfl fun _ _ _ h => h
     · exact pz rfl rfl rfl rfl fun _ _ _ h => h
     · exact pz rfl rfl rfl rfl fun _ _ _ h => h
     · exact pz rfl rfl rfl rfl fun _ _ _ h => h
     · exact pz rfl rfl rfl rfl fun _ _ _ h => h
     · exact pz rfl rfl rfl rfl fun _ _ _ h => h
     · exact fun D ρ w56 hcD hnD hdD hW => ⟨_, kf_fr [1, 41], fun Lr => t_load Try.isAgg124 rfl rfl rfl ((B26.keep (hW.1 (hcD.late 53 (hcD.late 50 (hcD.late 37 (hcD.late 36 (hcD.late 35 (hcD.late 34 (hcD.late 33 (hcD.late 31 (hcD.late 30 (hcD.late 28 (hcD.late 27 (hcD.late 26 hnD rfl) rfl) rfl) rfl) rfl) rfl) rfl) rfl) rfl) rfl) rfl) rfl)) (fun h => h)).get rfl) (dz rfl hW)⟩
     · exact pz rfl rfl rfl rfl fun _ _ _ h => h
     · exact pzf Try.underlying160 rfl Try.sizeOf158 (2) rfl rfl rfl rfl rfl fun _ _ _ h => h
     · exact fun D ρ w64 hcD hnD hdD hW => ⟨_, kf_fr [41, 44], fun Lr => t_load Try.isAgg158 rfl rfl rfl (((((htb.keep u4 (show ¬ (T t) by first | omega | assumption)).keep u19 (fun h => h)).keep u22 (show ¬ (t = bk16) by first | omega | assumption)).keep (hW.1 (hcD.late 53 (hcD.late 50 (hcD.late 37 (hcD.late 36 (hcD.late 35 (hcD.late 34 (hcD.late 33 (hcD.late 31 (hcD.late 30 hnD rfl) rfl) rfl) rfl) rfl) rfl) rfl) rfl) rfl)) (fun h => h)).get rfl) (dz rfl hW)⟩
     · exact fun D ρ w72 hcD hnD hdD hW => ⟨_, kf_fr [2, 41], fun Lr => t_load Try.isAgg3 rfl rfl rfl ((B27.keep (hW.1 (hcD.late 53 (hcD.late 50 (hcD.late 37 (hcD.late 36 (hcD.late 35 (hcD.late 34 (hcD.late 33 (hcD.late 31 (hcD.late 30 hnD rfl) rfl) rfl) rfl) rfl) rfl) rfl) rfl) rfl)) (fun h => h)).get rfl) (dz rfl hW)⟩
     · exact fun D ρ w80 hcD hnD hdD hW => ⟨_, kf_fr [41, 45, 46], fun Lr => t_index (j := i) Try.underlying158 Try.sizeOf157 rfl rfl rfl rfl ((((D14.keep u19 (fun _ _ h => h)).keep u22 (fun i hi => show ¬ (i = bk16) by omega)).keep (hW.1 (hcD.late 53 (hcD.late 50 (hcD.late 37 (hcD.late 36 (hcD.late 35 (hcD.late 34 (hcD.late 33 (hcD.late 31 hnD rfl) rfl) rfl) rfl) rfl) rfl) rfl) rfl)) (fun _ _ h => h)).ssl.addr (by omega)) rfl (by omega) (dz rfl hW)⟩
     · exact fun D ρ w89 hcD hnD hdD hW => ⟨_, kf_fr [41, 47], fun Lr => t_load Try.isAgg157 rfl rfl rfl (((((D14.keep u19 (fun _ _ h => h)).keep u22 (fun i hi => show ¬ (i = bk16) by omega)).keep (hW.1 (hcD.late 53 (hcD.late 50 (hcD.late 37 (hcD.late 36 (hcD.late 35 (hcD.late 34 (hcD.late 33 hnD rfl) rfl) rfl) rfl) rfl) rfl) rfl)) (fun _ _ h => h)).ssl.at_ i (by omega)) 0 _ rfl) (dz rfl hW)⟩
     · exact pz rfl rfl rfl rfl fun _ _ _ h => h
     · exact fun D ρ w97 hcD hnD hdD hW => ⟨_, kf_fr [41, 48, 49], fun Lr => t_index (j := k) Try.underlying157 Try.sizeOf141 rfl rfl rfl rfl (((((D14.keep u19 (fun _ _ h => h)).keep u22 (fun i hi => show ¬ (i = bk16) by omega)).keep (hW.1 (hcD.late 53 (hcD.late 50 (hcD.late 37 (hcD.late 36 (hcD.late 35 (hcD.late 34 hnD rfl) rfl) rfl) rfl) rfl) rfl)) (fun _ _ h => h)).rsl (nth rows i) (nth_mem (by omega))).addr (by omega)) rfl (by omega) (dz rfl hW)⟩
     · exact pzf Try.underlying141 rfl Try.sizeOf4 (0 + k * 5 + 4) rfl rfl rfl rfl rfl fun _ _ _ h => h
     · exact fun D ρ w106 hcD hnD hdD hW => ⟨_, kf_fr [41, 51], fun Lr => t_load Try.isAgg4 rfl rfl rfl ((((((D14.keep u19 (fun _ _ h => h)).keep u22 (fun i hi => show ¬ (i = bk16) by omega)).keep (hW.1 (hcD.late 53 (hcD.late 50 (hcD.late 37 (hcD.late 36 hnD rfl) rfl) rfl) rfl)) (fun _ _ h => h)).rsl (nth rows i) (nth_mem (by omega))).at_ k (by omega)) 4 _ rfl) (dz rfl hW)⟩
     · exact pz rfl rfl rfl rfl fun _ _ _ h => h
     · exact fun D ρ w _ _ _ hW => ⟨[(53, .bool ((nth ((nth rows i).ss) k).there))], ⟨fi 36 rfl rfl rfl, trivial⟩, fun Lr => t_move rfl rfl rfl (t_samehd (v := .bool true) (by first | exact congrArg Value.bool (decide_eq_true g54) | exact congrArg Value.bool g54 | simp [g54]) (dz rfl hW))⟩
     · exact fun D ρ w114 hcD hnD hdD hW => ⟨_, kf_fr [1, 54], fun Lr => t_load Try.isAgg124 rfl rfl rfl ((B26.keep (hW.1 (hcD.late 53 (hcD.late 50 (hcD.late 49 (hcD.late 48 (hcD.late 47 (hcD.late 46 (hcD.late 44 (hcD.late 43 (hcD.late 41 (hcD.late 40 (hcD.late 39 hnD rfl) rfl) rfl) rfl) rfl) rfl) rfl) rfl) rfl) rfl) rfl)) (fun h => h)).get rfl) (dz rfl hW)⟩
     · exact pz rfl rfl rfl rfl fun _ _ _ h => h
     · exact pzf Try.underlying160 rfl Try.sizeOf158 (2) rfl rfl rfl rfl rfl fun _ _ _ h => h
     · exact fun D ρ w122 hcD hnD hdD hW => ⟨_, kf_fr [54, 57], fun Lr => t_load Try.isAgg158 rfl rfl rfl (((((htb.keep u4 (show ¬ (T t) by first | omega | assumption)).keep u19 (fun h => h)).keep u22 (show ¬ (t = bk16) by first | omega | assumption)).keep (hW.1 (hcD.late 53 (hcD.late 50 (hcD.late 49 (hcD.late 48 (hcD.late 47 (hcD.late 46 (hcD.late 44 (hcD.late 43 hnD rfl) rfl) rfl) rfl) rfl) rfl) rfl) rfl)) (fun h => h)).get rfl) (dz rfl hW)⟩
     · exact fun D ρ w130 hcD hnD hdD hW => ⟨_, kf_fr [3, 54], fun Lr => t_load Try.isAgg3 rfl rfl rfl ((B28.keep (hW.1 (hcD.late 53 (hcD.late 50 (hcD.late 49 (hcD.late 48 (hcD.late 47 (hcD.late 46 (hcD.late 44 (hcD.late 43 hnD rfl) rfl) rfl) rfl) rfl) rfl) rfl) rfl)) (fun h => h)).get rfl) (dz rfl hW)⟩
     · exact fun D ρ w138 hcD hnD hdD hW => ⟨_, kf_fr [54, 58, 59], fun Lr => t_index (j := j) Try.underlying158 Try.sizeOf157 rfl rfl rfl rfl ((((D14.keep u19 (fun _ _ h => h)).keep u22 (fun i hi => show ¬ (i = bk16) by omega)).keep (hW.1 (hcD.late 53 (hcD.late 50 (hcD.late 49 (hcD.late 48 (hcD.late 47 (hcD.late 46 (hcD.late 44 hnD rfl) rfl) rfl) rfl) rfl) rfl) rfl)) (fun _ _ h => h)).ssl.addr (by omega)) rfl (by omega) (dz rfl hW)⟩
     · exact fun D ρ w147 hcD hnD hdD hW => ⟨_, kf_fr [54, 60], fun Lr => t_load Try.isAgg157 rfl rfl rfl (((((D14.keep u19 (fun _ _ h => h)).keep u22 (fun i hi => show ¬ (i = bk16) by omega)).keep (hW.1 (hcD.late 53 (hcD.late 50 (hcD.late 49 (hcD.late 48 (hcD.late 47 (hcD.late 46 hnD rfl) rfl) rfl) rfl) rfl) rfl)) (fun _ _ h => h)).ssl.at_ j (by omega)) 0 _ rfl) (dz rfl hW)⟩
     · exact pz rfl rfl rfl rfl fun _ _ _ h => h
     · exact fun D ρ w155 hcD hnD hdD hW => ⟨_, kf_fr [54, 61, 62], fun Lr => t_index (j := k) Try.underlying157 Try.sizeOf141 rfl rfl rfl rfl (((((D14.keep u19 (fun _ _ h => h)).keep u22 (fun i hi => show ¬ (i = bk16) by omega)).keep (hW.1 (hcD.late 53 (hcD.late 50 (hcD.late 49 (hcD.late 48 (hcD.late 47 hnD rfl) rfl) rfl) rfl) rfl)) (fun _ _ h => h)).rsl (nth rows j) (nth_mem (by omega))).addr (by omega)) rfl (by omega) (dz rfl hW)⟩
     · exact pzf Try.underlying141 rfl Try.sizeOf4 (0 + k * 5 + 4) rfl rfl rfl rfl rfl fun _ _ _ h => h
     · exact fun D ρ w164 hcD hnD hdD hW => ⟨_, kf_fr [54, 64], fun Lr => t_load Try.isAgg4 rfl rfl rfl ((((((D14.keep u19 (fun _ _ h => h)).keep u22 (fun i hi => show ¬ (i = bk16) by omega)).keep (hW.1 (hcD.late 53 (hcD.late 50 (hcD.late 49 hnD rfl) rfl) rfl)) (fun _ _ h => h)).rsl (nth rows j) (nth_mem (by omega))).at_ k (by omega)) 4 _ rfl) (dz rfl hW)⟩
     · exact pz rfl rfl rfl rfl fun _ _ _ h => h
     · exact fun D ρ w _ _ _ hW => ⟨[(66, .bool ((nth ((nth rows j).ss) k).there))], ⟨fi 49 rfl rfl rfl, trivial⟩, fun Lr => t_move rfl rfl rfl (t_samehd (v := .bool true) (by first | exact congrArg Value.bool (decide_eq_true g67) | exact congrArg Value.bool g67 | simp [g67]) (dz rfl hW))⟩
     · exact pz rfl rfl rfl rfl fun _ _ _ h => h
     · exact pz rfl rfl rfl rfl fun _ _ _ h => h
     ·
      intro D ρ w172 hcD hnD hdD hW
      obtain ⟨u173, F174, F175, F176⟩ := hW
      have u177 := u173 hnD
      have zu177 := u177.size
      refine ⟨_, kf_fr [67, 68, 69], fun Lr => ?_⟩
      refine t_yield (vs := [.int .i64 (k : Int)]) rfl rfl rfl rfl (hY pre ⟨k, hkn⟩ _ (hJ _ _ _ none hJk (Ext.grownBy ((((Upd.refl (fun _ => False) _).next u19 (fun _ _ h => h.elim)).next u22 (fun i hi (h : i = bk16) => show False by first | omega | assumption)).next u177 (fun _ _ h => h.elim))) (fun r e => by cases e)) hpl21) (by rintro e w' (⟨rfl, _⟩ | ⟨rfl, _⟩) <;> exact ⟨_, rfl⟩) (fun v179 w180 r181 => ?_)
      obtain ⟨yb, rfl, hrd⟩ : ∃ b, v179 = .bool b ∧ ((b = true → J (pre ++ [⟨k, hkn⟩]) w180 ∧ Upd T w172 w180) ∧ (b = false → Jx (pre ++ [⟨k, hkn⟩]) w180)) := by
       rcases r181 with ⟨e, h⟩ | ⟨e, h⟩
       · injection e with e; exact ⟨true, e, fun _ => h, fun h => by cases h⟩
       · injection e with e; exact ⟨false, e, fun h => (by cases h), fun _ => h⟩
      exact dzn rfl ⟨(fun h => by cases h), (fun _ => ⟨yb, rfl, ⟨fun h => ⟨(hrd.1 h).1, (Ext.to u177).trans (hrd.1 h).2⟩, hrd.2⟩⟩), (fun h => absurd ((hcD.late 54 hnD rfl).symm.trans h) (by decide)), (fun h => absurd ((hcD.late 55 (hcD.late 54 hnD rfl) rfl).symm.trans h) (by decide))⟩
     ·
      intro D ρ w182 hcD hnD hdD hW
      obtain ⟨u183, F184, F185, F186⟩ := hW
      obtain ⟨yb, e188, e187⟩ := F184 (hdD 53 rfl)
      refine ⟨[(67, .bool true), (70, .bool yb)], ⟨fi 50 rfl rfl rfl, fi 53 rfl rfl e188.symm, trivial⟩, fun Lr => ?_⟩
      refine t_not rfl rfl rfl ?_
      exact dzn rfl ⟨u183, F184, (fun _ => ⟨yb, e188, rfl⟩), F186⟩
     ·
      intro D ρ w189 hcD hnD hdD hW
      obtain ⟨u190, F191, F192, F193⟩ := hW
      obtain ⟨yb, e195, e194⟩ := F192 (hdD 54 rfl)
      refine ⟨[(67, .bool true), (71, .bool (!yb))], ⟨fi 50 rfl rfl rfl, fi 54 rfl rfl e194.symm, trivial⟩, fun Lr => ?_⟩
      refine t_pick_t rfl rfl rfl rfl ?_
      exact dzn rfl ⟨u190, F191, F192, (fun _ => ⟨yb, e195, rfl⟩)⟩
     intro ρ w196 hW
     obtain ⟨u197, F198, F199, F200⟩ := hW
     obtain ⟨yb, e201, hrd⟩ := F198 rfl
     obtain ⟨b203, e204, e202⟩ := F199 rfl
     obtain rfl : yb = b203 := Value.bool.inj (e201.symm.trans e204)
     obtain ⟨b206, e207, e205⟩ := F200 rfl
     obtain rfl : yb = b206 := Value.bool.inj (e201.symm.trans e207)
     refine QK.weak [(0, .func (.yield l) #[] #[]), (1, .pointer (some ⟨b3, 0, none⟩)), (2, .pointer (some ⟨b4, 0, none⟩)), (3, .pointer (some ⟨b5, 0, none⟩)), (10, .slice an ns.length cn), (11, .int .i64 (ns.length : Int)), (12, .int .i64 (k : Int)), (72, .bool (!yb))] ⟨rfl, rfl, rfl, rfl, rfl, rfl, rfl, (look_nd (j := 55) rfl rfl rfl e205), trivial⟩ (hK25 _ _ (c_cond rfl (fun g72 => ?_) (fun g72 => ?_)))
     ·
      refine c_ret (f_ret0 Try.results108 ?_)
      exact ⟨_, rfl, .inr ⟨_, hrd.2 (by simpa using g72)⟩⟩
     ·
      obtain ⟨hJ2, u208⟩ := hrd.1 (by simpa using g72)
      have zu208 := u208.size
      refine c_skip (hK12 _ _ (c_region (t_ari rfl rfl rfl rfl rfl (by omega) (t_move rfl rfl rfl (t_nil' ?_)))))
      exact hK2 (k + 1, pre ++ [⟨k, hkn⟩]) _ _ (by show ns.length - (k + 1) < ns.length - k; omega) ⟨rfl, rfl, rfl, rfl, rfl, rfl, rfl, trivial⟩ ⟨(((u4.next u19 (fun _ _ h => h.elim)).next u22 (fun i hi (h : i = bk16) => show T i by first | omega | assumption)).next u208 (fun i hi (h : T i) => show T i by first | omega | assumption)), (by omega), (by show (pre ++ [(⟨k, hkn⟩ : Ix ns.length)]).map (·.1) = _; rw [vals_snoc hpre, filter_succ, if_pos (by simp only [barB]; simp_all)]), (by show (pre ++ [_]).length ≤ k + 1; simp; omega), hJ2⟩
    ·
     refine WC.weak [(0, .func (.yield l) #[] #[]), (1, .pointer (some ⟨b3, 0, none⟩)), (2, .pointer (some ⟨b4, 0, none⟩)), (3, .pointer (some ⟨b5, 0, none⟩)), (5, .int .i64 (k : Int)), (6, .pointer (some ⟨bk16, 0, none⟩)), (10, .slice an ns.length cn), (11, .int .i64 (ns.length : Int)), (12, .int .i64 (k : Int))] ⟨rfl, rfl, rfl, rfl, rfl, rfl, rfl, rfl, rfl, trivial⟩ (c_drawn followsS' 56 [some (17, some (.pointer (some ⟨bk16, 3, none⟩))), some (18, some (.bool ((nth ns k).single))), some (19, some (.bool true)), some (20, some (undef)), some (21, some (undef)), some (22, some (undef)), some (23, some (undef)), some (24, some (undef)), some (25, some (undef)), some (26, some (undef)), some (27, some (undef)), some (28, some (undef)), some (29, some (undef)), some (30, some (undef)), some (31, some (undef)), some (32, some (undef)), some (33, some (undef)), some (34, some (undef)), some (35, some (undef)), some (36, some (undef)), some (37, some (undef)), some (38, some (undef)), some (39, some (undef)), some (40, some (.bool true)), some (41, some (.bool true)), some (42, some (.pointer (some ⟨t, 0, none⟩))), some (43, some (.pointer (some ⟨t, 0, none⟩))), some (44, some (.pointer (some ⟨t, 2, none⟩))), some (45, some (.slice ar rows.length cr)), some (46, some (.int .i64 (i : Int))), some (47, some (.pointer (some ⟨br, 0 + i * 1, none⟩))), some (48, some (.slice ((nth rows i).ao) (((nth rows i).ss).length) ((nth rows i).cap))), some (49, some (.int .i64 (k : Int))), some (50, some (.pointer (some ⟨(nth rows i).g, 0 + k * 5, none⟩))), some (51, some (.pointer (some ⟨(nth rows i).g, 0 + k * 5 + 4, none⟩))), some (52, some (.bool ((nth ((nth rows i).ss) k).there))), some (53, some (.bool ((nth ((nth rows i).ss) k).there))), some (54, some (.bool true)), some (55, some (.pointer (some ⟨t, 0, none⟩))), some (56, some (.pointer (some ⟨t, 0, none⟩))), some (57, some (.pointer (some ⟨t, 2, none⟩))), some (58, some (.slice ar rows.length cr)), some (59, some (.int .i64 (j : Int))), some (60, some (.pointer (some ⟨br, 0 + j * 1, none⟩))), some (61, some (.slice ((nth rows j).ao) (((nth rows j).ss).length) ((nth rows j).cap))), some (62, some (.int .i64 (k : Int))), some (63, some (.pointer (some ⟨(nth rows j).g, 0 + k * 5, none⟩))), some (64, some (.pointer (some ⟨(nth rows j).g, 0 + k * 5 + 4, none⟩))), some (65, some (.bool ((nth ((nth rows j).ss) k).there))), some (66, some (.bool ((nth ((nth rows j).ss) k).there))), some (67, some (.bool false)), some (68, some (undef)), some (69, some (undef)), some (70, some (undef)), some (71, some (undef)), some (72, some (.bool false))] [[],[0],[1],[2],[3,2],[4,2],[5,2],[2],[6,7,2],[8,2],[9,2],[2],[11,2],[12,2],[13,2],[2],[14,15,2],[16,2],[17,2],[10,18,2],[2],[20,2],[19,21,2],[2,22],[23,2],[24],[25,24],[26,24],[27,24],[24],[28,29,24],[30,24],[24],[31,32,24],[33,24],[34,24],[24,35],[36,24],[37],[38,37],[39,37],[40,37],[37],[41,42,37],[43,37],[37],[44,45,37],[46,37],[47,37],[37,48],[49,37],[50],[50],[51,52,50,50],[53,50],[50,54]] (fun _ _ w => Upd (fun _ => False) w21 w) rfl rfl rfl (by kernel_rfl) (by kernel_rfl) (Upd.drew _).to ⟨?_, ?_, ?_, ?_, ?_, ?_, ?_, ?_, ?_, ?_, ?_, ?_, ?_, ?_, ?_, ?_, ?_, ?_, ?_, ?_, ?_, ?_, ?_, ?_, ?_, ?_, ?_, ?_, ?_, ?_, ?_, ?_, ?_, ?_, ?_, ?_, ?_, ?_, ?_, ?_, ?_, ?_, ?_, ?_, ?_, ?_, ?_, ?_, ?_, ?_, ?_, ?_, ?_, ?_, ?_, ?_, trivial⟩ ?_)
     · exact pzf Try.underlying72 rfl Try.sizeOf4 (3) rfl rfl rfl rfl rfl fun _ _ _ h => h
     ·
      intro D ρ w216 hcD hnD hdD hW
      have zhW := hW.size
      refine ⟨_, kf_fr [17], fun Lr => ?_⟩
      have B219 := (B23.keep hW (fun h => h))
      refine t_load Try.isAgg4 rfl rfl rfl (B219.get rfl) ?_
      exact dz rfl hW
     · exact fun D ρ w _ _ _ hW => ⟨[(18, .bool ((nth ns k).single))], ⟨fi 1 rfl rfl rfl, trivial⟩, fun Lr => t_move rfl rfl rfl (t_samehd (v := .bool true) (by first | exact congrArg Value.bool (decide_eq_true g19) | exact congrArg Value.bool g19 | simp [g19]) (dz rfl hW))⟩
     · exact pz rfl rfl rfl rfl fun _ _ _ h => h
     · exact pz rfl rfl rfl rfl fun _ _ _ h => h
     · exact pz rfl rfl rfl rfl fun _ _ _ h => h
     · exact pz rfl rfl rfl rfl fun _ _ _ h => h
     · exact pz rfl rfl rfl rfl fun _ _ _ h => h
     · exact pz rfl rfl rfl rfl fun _ _ _ h => h
     · exact pz rfl rfl rfl rfl fun _ _ _ h => h
     · exact pz rfl rfl rfl rfl fun _ _ _ h => h
     · exact pz rfl rfl rfl rfl fun _ _ _ h => h
     · exact pz rfl rfl rfl rfl fun _ _ _ h => h
     · exact pz rfl rfl rfl rfl fun _ _ _ h => h
     · exact pz rfl rfl rfl rfl fun _ _ _ h => h
     · exact pz rfl rfl rfl rfl fun _ _ _ h => h
     · exact pz rfl rfl rfl rfl fun _ _ _ h => h
     · exact pz rfl rfl rfl rfl fun _ _ _ h => h
     · exact pz rfl rfl rfl rfl fun _ _ _ h => h
     · exact pz rfl rfl rfl rfl fun _ _ _ h => h
     · exact pz rfl rfl rfl rfl fun _ _ _ h => h
     · exact pz rfl rfl rfl rfl fun _ _ _ h => h
     · exact pz rfl rfl rfl rfl fun _ _ _ h => h
     · exact pz rfl rfl rfl rfl fun _ _ _ h => h
     · exact pz rfl rfl rfl rfl fun _ _ _ h => h
     ·
      intro D ρ w220 hcD hnD hdD hW
      have zhW := hW.size
      refine ⟨_, kf_fr [1, 41], fun Lr => ?_⟩
      have B223 := (B26.keep hW (fun h => h))
      refine t_load Try.isAgg124 rfl rfl rfl (B223.get rfl) ?_
      exact dz rfl hW
     · exact pz rfl rfl rfl rfl fun _ _ _ h => h
     · exact pzf Try.underlying160 rfl Try.sizeOf158 (2) rfl rfl rfl rfl rfl fun _ _ _ h => h
     ·
      intro D ρ w224 hcD hnD hdD hW
      have zhW := hW.size
      refine ⟨_, kf_fr [41, 44], fun Lr => ?_⟩
      have B227 := ((((htb.keep u4 (show ¬ (T t) by first | omega | assumption)).keep u19 (fun h => h)).keep u22 (show ¬ (t = bk16) by first | omega | assumption)).keep hW (fun h => h))
      refine t_load Try.isAgg158 rfl rfl rfl (B227.get rfl) ?_
      exact dz rfl hW
     ·
      intro D ρ w228 hcD hnD hdD hW
      have zhW := hW.size
      refine ⟨_, kf_fr [2, 41], fun Lr => ?_⟩
      have B231 := (B27.keep hW (fun h => h))
      refine t_load Try.isAgg3 rfl rfl rfl (B231.get rfl) ?_
      exact dz rfl hW
     ·
      intro D ρ w232 hcD hnD hdD hW
      have zhW := hW.size
      refine ⟨_, kf_fr [41, 45, 46], fun Lr => ?_⟩
      have D235 := (((D14.keep u19 (fun _ _ h => h)).keep u22 (fun i hi => show ¬ (i = bk16) by omega)).keep hW (fun _ _ h => h))
      have i236 : i < rows.length := (by omega)
      refine t_index (j := i) Try.underlying158 Try.sizeOf157 rfl rfl rfl rfl (D235.ssl.addr (by omega)) rfl i236 ?_
      exact dz rfl hW
     ·
      intro D ρ w237 hcD hnD hdD hW
      have zhW := hW.size
      refine ⟨_, kf_fr [41, 47], fun Lr => ?_⟩
      have D240 := (((D14.keep u19 (fun _ _ h => h)).keep u22 (fun i hi => show ¬ (i = bk16) by omega)).keep hW (fun _ _ h => h))
      refine t_load Try.isAgg157 rfl rfl rfl ((D240.ssl.at_ i (by omega)) 0 _ rfl) ?_
      exact dz rfl hW
     · exact pz rfl rfl rfl rfl fun _ _ _ h => h
     ·
      intro D ρ w241 hcD hnD hdD hW
      have zhW := hW.size
      refine ⟨_, kf_fr [41, 48, 49], fun Lr => ?_⟩
      have D244 := (((D14.keep u19 (fun _ _ h => h)).keep u22 (fun i hi => show ¬ (i = bk16) by omega)).keep hW (fun _ _ h => h))
      have i245 : k < ((nth rows i).ss).length := (by omega)
      refine t_index (j := k) Try.underlying157 Try.sizeOf141 rfl rfl rfl rfl ((D244.rsl (nth rows i) (nth_mem (by omega))).addr (by omega)) rfl i245 ?_
      exact dz rfl hW
     · exact pzf Try.underlying141 rfl Try.sizeOf4 (0 + k * 5 + 4) rfl rfl rfl rfl rfl fun _ _ _ h => h
     ·
      intro D ρ w246 hcD hnD hdD hW
      have zhW := hW.size
      refine ⟨_, kf_fr [41, 51], fun Lr => ?_⟩
      have D249 := (((D14.keep u19 (fun _ _ h => h)).keep u22 (fun i hi => show ¬ (i = bk16) by omega)).keep hW (fun _ _ h => h))
      refine t_load Try.isAgg4 rfl rfl rfl (((D249.rsl (nth rows i) (nth_mem (by omega))).at_ k (by omega)) 4 _ rfl) ?_
      exact dz rfl hW
     · exact pz rfl rfl rfl rfl fun _ _ _ h => h
     · exact fun D ρ w _ _ _ hW => ⟨[(53, .bool ((nth ((nth rows i).ss) k).there))], ⟨fi 36 rfl rfl rfl, trivial⟩, fun Lr => t_move rfl rfl rfl (t_samehd (v := .bool true) (by first | exact congrArg Value.bool (decide_eq_true g54) | exact congrArg Value.bool g54 | simp [g54]) (dz rfl hW))⟩
     ·
      intro D ρ w250 hcD hnD hdD hW
      have zhW := hW.size
      refine ⟨_, kf_fr [1, 54], fun Lr => ?_⟩
      have B253 := (B26.keep hW (fun h => h))
      refine t_load Try.isAgg124 rfl rfl rfl (B253.get rfl) ?_
      exact dz rfl hW
     · exact pz rfl rfl rfl rfl fun _ _ _ h => h
     · exact pzf Try.underlying160 rfl Try.sizeOf158 (2) rfl rfl rfl rfl rfl fun _ _ _ h => h
     ·
      intro D ρ w254 hcD hnD hdD hW
      have zhW := hW.size
      refine ⟨_, kf_fr [54, 57], fun Lr => ?_⟩
      have B257 := ((((htb.keep u4 (show ¬ (T t) by first | omega | assumption)).keep u19 (fun h => h)).keep u22 (show ¬ (t = bk16) by first | omega | assumption)).keep hW (fun h => h))
      refine t_load Try.isAgg158 rfl rfl rfl (B257.get rfl) ?_
      exact dz rfl hW
     ·
      intro D ρ w258 hcD hnD hdD hW
      have zhW := hW.size
      refine ⟨_, kf_fr [3, 54], fun Lr => ?_⟩
      have B261 := (B28.keep hW (fun h => h))
      refine t_load Try.isAgg3 rfl rfl rfl (B261.get rfl) ?_
      exact dz rfl hW
     ·
      intro D ρ w262 hcD hnD hdD hW
      have zhW := hW.size
      refine ⟨_, kf_fr [54, 58, 59], fun Lr => ?_⟩
      have D265 := (((D14.keep u19 (fun _ _ h => h)).keep u22 (fun i hi => show ¬ (i = bk16) by omega)).keep hW (fun _ _ h => h))
      have i266 : j < rows.length := (by omega)
      refine t_index (j := j) Try.underlying158 Try.sizeOf157 rfl rfl rfl rfl (D265.ssl.addr (by omega)) rfl i266 ?_
      exact dz rfl hW
     ·
      intro D ρ w267 hcD hnD hdD hW
      have zhW := hW.size
      refine ⟨_, kf_fr [54, 60], fun Lr => ?_⟩
      have D270 := (((D14.keep u19 (fun _ _ h => h)).keep u22 (fun i hi => show ¬ (i = bk16) by omega)).keep hW (fun _ _ h => h))
      refine t_load Try.isAgg157 rfl rfl rfl ((D270.ssl.at_ j (by omega)) 0 _ rfl) ?_
      exact dz rfl hW
     · exact pz rfl rfl rfl rfl fun _ _ _ h => h
     ·
      intro D ρ w271 hcD hnD hdD hW
      have zhW := hW.size
      refine ⟨_, kf_fr [54, 61, 62], fun Lr => ?_⟩
      have D274 := (((D14.keep u19 (fun _ _ h => h)).keep u22 (fun i hi => show ¬ (i = bk16) by omega)).keep hW (fun _ _ h => h))
      have i275 : k < ((nth rows j).ss).length := (by omega)
      refine t_index (j := k) Try.underlying157 Try.sizeOf141 rfl rfl rfl rfl ((D274.rsl (nth rows j) (nth_mem (by omega))).addr (by omega)) rfl i275 ?_
      exact dz rfl hW
     · exact pzf Try.underlying141 rfl Try.sizeOf4 (0 + k * 5 + 4) rfl rfl rfl rfl rfl fun _ _ _ h => h
     ·
      intro D ρ w276 hcD hnD hdD hW
      have zhW := hW.size
      refine ⟨_, kf_fr [54, 64], fun Lr => ?_⟩
      have D279 := (((D14.keep u19 (fun _ _ h => h)).keep u22 (fun i hi => show ¬ (i = bk16) by omega)).keep hW (fun _ _ h => h))
      refine t_load Try.isAgg4 rfl rfl rfl (((D279.rsl (nth rows j) (nth_mem (by omega))).at_ k (by omega)) 4 _ rfl) ?_
      exact dz rfl hW
     · exact pz rfl rfl rfl rfl fun _ _ _ h => h
     · exact fun D ρ w _ _ _ hW => ⟨[(66, .bool ((nth ((nth rows j).ss) k).there))], ⟨fi 49 rfl rfl rfl, trivial⟩, fun Lr => t_move rfl rfl rfl (t_samehd (v := .bool false) (by first | exact congrArg Value.bool (decide_eq_false g67) | exact congrArg Value.bool g67 | simp [g67]) (dz rfl hW))⟩
     · exact pz rfl rfl rfl rfl fun _ _ _ h => h
     · exact pz rfl rfl rfl rfl fun _ _ _ h => h
     · exact pz rfl rfl rfl rfl fun _ _ _ h => h
     · exact pz rfl rfl rfl rfl fun _ _ _ h => h
     · exact pz rfl rfl rfl rfl fun _ _ _ h => h
     intro ρ w280 hW
     have u281 : Upd (fun _ => False) w21 w280 := hW
     have zu281 := u281.size
     refine QK.weak [(0, .func (.yield l) #[] #[]), (1, .pointer (some ⟨b3, 0, none⟩)), (2, .pointer (some ⟨b4, 0, none⟩)), (3, .pointer (some ⟨b5, 0, none⟩)), (10, .slice an ns.length cn), (11, .int .i64 (ns.length : Int)), (12, .int .i64 (k : Int)), (72, .bool false)] ⟨rfl, rfl, rfl, rfl, rfl, rfl, rfl, rfl, trivial⟩ (hK25 _ _ (c_cond_f rfl (c_skip (hK12 _ _ (c_region (t_ari rfl rfl rfl rfl rfl (by omega) (t_move rfl rfl rfl (t_nil' ?_))))))))
     exact hK2 (k + 1, pre) _ _ (by show ns.length - (k + 1) < ns.length - k; omega) ⟨rfl, rfl, rfl, rfl, rfl, rfl, rfl, trivial⟩ ⟨(((u4.next u19 (fun _ _ h => h.elim)).next u22 (fun i hi (h : i = bk16) => show T i by first | omega | assumption)).next u281 (fun _ _ h => h.elim)), (by omega), (by rw [filter_succ, if_neg (by simp [barB, g67])]; simpa using hpre), (by show pre.length ≤ (k + 1); omega), (hJ _ _ _ none hJk (Ext.grownBy ((((Upd.refl (fun _ => False) _).next u19 (fun _ _ h => h.elim)).next u22 (fun i hi (h : i = bk16) => show False by first | omega | assumption)).next u281 (fun _ _ h => h.elim))) (fun r e => by cases e))⟩
   ·
    refine WC.weak [(0, .func (.yield l) #[] #[]), (1, .pointer (some ⟨b3, 0, none⟩)), (2, .pointer (some ⟨b4, 0, none⟩)), (3, .pointer (some ⟨b5, 0, none⟩)), (5, .int .i64 (k : Int)), (6, .pointer (some ⟨bk16, 0, none⟩)), (10, .slice an ns.length cn), (11, .int .i64 (ns.length : Int)), (12, .int .i64 (k : Int))] ⟨rfl, rfl, rfl, rfl, rfl, rfl, rfl, rfl, rfl, trivial⟩ (c_drawn followsS' 56 [some (17, some (.pointer (some ⟨bk16, 3, none⟩))), some (18, some (.bool ((nth ns k).single))), some (19, some (.bool true)), some (20, some (undef)), some (21, some (undef)), some (22, some (undef)), some (23, some (undef)), some (24, some (undef)), some (25, some (undef)), some (26, some (undef)), some (27, some (undef)), some (28, some (undef)), some (29, some (undef)), some (30, some (undef)), some (31, some (undef)), some (32, some (undef)), some (33, some (undef)), some (34, some (undef)), some (35, some (undef)), some (36, some (undef)), some (37, some (undef)), some (38, some (undef)), some (39, some (undef)), some (40, some (.bool true)), some (41, some (.bool true)), some (42, some (.pointer (some ⟨t, 0, none⟩))), some (43, some (.pointer (some ⟨t, 0, none⟩))), some (44, some (.pointer (some ⟨t, 2, none⟩))), some (45, some (.slice ar rows.length cr)), some (46, some (.int .i64 (i : Int))), some (47, some (.pointer (some ⟨br, 0 + i * 1, none⟩))), some (48, some (.slice ((nth rows i).ao) (((nth rows i).ss).length) ((nth rows i).cap))), some (49, some (.int .i64 (k : Int))), some (50, some (.pointer (some ⟨(nth rows i).g, 0 + k * 5, none⟩))), some (51, some (.pointer (some ⟨(nth rows i).g, 0 + k * 5 + 4, none⟩))), some (52, some (.bool ((nth ((nth rows i).ss) k).there))), some (53, some (.bool ((nth ((nth rows i).ss) k).there))), some (54, some (.bool false)), some (55, some (undef)), some (56, some (undef)), some (57, some (undef)), some (58, some (undef)), some (59, some (undef)), some (60, some (undef)), some (61, some (undef)), some (62, some (undef)), some (63, some (undef)), some (64, some (undef)), some (65, some (undef)), some (66, some (.bool false)), some (67, some (.bool false)), some (68, some (undef)), some (69, some (undef)), some (70, some (undef)), some (71, some (undef)), some (72, some (.bool false))] [[],[0],[1],[2],[3,2],[4,2],[5,2],[2],[6,7,2],[8,2],[9,2],[2],[11,2],[12,2],[13,2],[2],[14,15,2],[16,2],[17,2],[10,18,2],[2],[20,2],[19,21,2],[2,22],[23,2],[24],[25,24],[26,24],[27,24],[24],[28,29,24],[30,24],[24],[31,32,24],[33,24],[34,24],[24,35],[36,24],[37],[38,37],[39,37],[40,37],[37],[41,42,37],[43,37],[37],[44,45,37],[46,37],[47,37],[37,48],[49,37],[50],[50],[51,52,50,50],[53,50],[50,54]] (fun _ _ w => Upd (fun _ => False) w21 w) rfl rfl rfl (by kernel_rfl) (by kernel_rfl) (Upd.drew _).to ⟨?_, ?_, ?_, ?_, ?_, ?_, ?_, ?_, ?_, ?_, ?_, ?_, ?_, ?_, ?_, ?_, ?_, ?_, ?_, ?_, ?_, ?_, ?_, ?_, ?_, ?_, ?_, ?_, ?_, ?_, ?_, ?_, ?_, ?_, ?_, ?_, ?_, ?_, ?_, ?_, ?_, ?_, ?_, ?_, ?_, ?_, ?_, ?_, ?_, ?_, ?_, ?_, ?_, ?_, ?_, ?_, trivial⟩ ?_)
    · exact pzf Try.underlying72 rfl Try.sizeOf4 (3) rfl rfl rfl rfl rfl fun _ _ _ h => h
    ·
     intro D ρ w287 hcD hnD hdD hW
     have zhW := hW.size
     refine ⟨_, kf_fr [17], fun Lr => ?_⟩
     have B290 := (B23.keep hW (fun h => h))
     refine t_load Try.isAgg4 rfl rfl rfl (B290.get rfl) ?_
     exact dz rfl hW
    · exact fun D ρ w _ _ _ hW => ⟨[(18, .bool ((nth ns k).single))], ⟨fi 1 rfl rfl rfl, trivial⟩, fun Lr => t_move rfl rfl rfl (t_samehd (v := .bool true) (by first | exact congrArg Value.bool (decide_eq_true g19) | exact congrArg Value.bool g19 | simp [g19]) (dz rfl hW))⟩
    · exact pz rfl rfl rfl rfl fun _ _ _ h => h
    · exact pz rfl rfl rfl rfl fun _ _ _ h => h
    · exact pz rfl rfl rfl rfl fun _ _ _ h => h
    · exact pz rfl rfl rfl rfl fun _ _ _ h => h
    · exact pz rfl rfl rfl rfl fun _ _ _ h => h
    · exact pz rfl rfl rfl rfl fun _ _ _ h => h
    · exact pz rfl rfl rfl rfl fun _ _ _ h => h
    · exact pz rfl rfl rfl rfl fun _ _ _ h => h
    · exact pz rfl rfl rfl rfl fun _ _ _ h => h
    · exact pz rfl rfl rfl rfl fun _ _ _ h => h
    · exact pz rfl rfl rfl rfl fun _ _ _ h => h
    · exact pz rfl rfl rfl rfl fun _ _ _ h => h
    · exact pz rfl rfl rfl rfl fun _ _ _ h => h
    · exact pz rfl rfl rfl rfl fun _ _ _ h => h
    · exact pz rfl rfl rfl rfl fun _ _ _ h => h
    · exact pz rfl rfl rfl rfl fun _ _ _ h => h
    · exact pz rfl rfl rfl rfl fun _ _ _ h => h
    · exact pz rfl rfl rfl rfl fun _ _ _ h => h
    · exact pz rfl rfl rfl rfl fun _ _ _ h => h
    · exact pz rfl rfl rfl rfl fun _ _ _ h => h
    · exact pz rfl rfl rfl rfl fun _ _ _ h => h
    · exact pz rfl rfl rfl rfl fun _ _ _ h => h
    ·
     intro D ρ w291 hcD hnD hdD hW
     have zhW := hW.size
     refine ⟨_, kf_fr [1, 41], fun Lr => ?_⟩
     have B294 := (B26.keep hW (fun h => h))
     refine t_load Try.isAgg124 rfl rfl rfl (B294.get rfl) ?_
     exact dz rfl hW
    · exact pz rfl rfl rfl rfl fun _ _ _ h => h
    · exact pzf Try.underlying160 rfl Try.sizeOf158 (2) rfl rfl rfl rfl rfl fun _ _ _ h => h
    ·
     intro D ρ w295 hcD hnD hdD hW
     have zhW := hW.size
     refine ⟨_, kf_fr [41, 44], fun Lr => ?_⟩
     have B298 := ((((htb.keep u4 (show ¬ (T t) by first | omega | assumption)).keep u19 (fun h => h)).keep u22 (show ¬ (t = bk16) by first | omega | assumption)).keep hW (fun h => h))
     refine t_load Try.isAgg158 rfl rfl rfl (B298.get rfl) ?_
     exact dz rfl hW
    ·
     intro D ρ w299 hcD hnD hdD hW
     have zhW := hW.size
     refine ⟨_, kf_fr [2, 41], fun Lr => ?_⟩
     have B302 := (B27.keep hW (fun h => h))
     refine t_load Try.isAgg3 rfl rfl rfl (B302.get rfl) ?_
     exact dz rfl hW
    ·
     intro D ρ w303 hcD hnD hdD hW
     have zhW := hW.size
     refine ⟨_, kf_fr [41, 45, 46], fun Lr => ?_⟩
     have D306 := (((D14.keep u19 (fun _ _ h => h)).keep u22 (fun i hi => show ¬ (i = bk16) by omega)).keep hW (fun _ _ h => h))
     have i307 : i < rows.length := (by omega)
     refine t_index (j := i) Try.underlying158 Try.sizeOf157 rfl rfl rfl rfl (D306.ssl.addr (by omega)) rfl i307 ?_
     exact dz rfl hW
    ·
     intro D ρ w308 hcD hnD hdD hW
     have zhW := hW.size
     refine ⟨_, kf_fr [41, 47], fun Lr => ?_⟩
     have D311 := (((D14.keep u19 (fun _ _ h => h)).keep u22 (fun i hi => show ¬ (i = bk16) by omega)).keep hW (fun _ _ h => h))
     refine t_load Try.isAgg157 rfl rfl rfl ((D311.ssl.at_ i (by omega)) 0 _ rfl) ?_
     exact dz rfl hW
    · exact pz rfl rfl rfl rfl fun _ _ _ h => h
    ·
     intro D ρ w312 hcD hnD hdD hW
     have zhW := hW.size
     refine ⟨_, kf_fr [41, 48, 49], fun Lr => ?_⟩
     have D315 := (((D14.keep u19 (fun _ _ h => h)).keep u22 (fun i hi => show ¬ (i = bk16) by omega)).keep hW (fun _ _ h => h))
     have i316 : k < ((nth rows i).ss).length := (by omega)
     refine t_index (j := k) Try.underlying157 Try.sizeOf141 rfl rfl rfl rfl ((D315.rsl (nth rows i) (nth_mem (by omega))).addr (by omega)) rfl i316 ?_
     exact dz rfl hW
    · exact pzf Try.underlying141 rfl Try.sizeOf4 (0 + k * 5 + 4) rfl rfl rfl rfl rfl fun _ _ _ h => h
    ·
     intro D ρ w317 hcD hnD hdD hW
     have zhW := hW.size
     refine ⟨_, kf_fr [41, 51], fun Lr => ?_⟩
     have D320 := (((D14.keep u19 (fun _ _ h => h)).keep u22 (fun i hi => show ¬ (i = bk16) by omega)).keep hW (fun _ _ h => h))
     refine t_load Try.isAgg4 rfl rfl rfl (((D320.rsl (nth rows i) (nth_mem (by omega))).at_ k (by omega)) 4 _ rfl) ?_
     exact dz rfl hW
    · exact pz rfl rfl rfl rfl fun _ _ _ h => h
    · exact fun D ρ w _ _ _ hW => ⟨[(53, .bool ((nth ((nth rows i).ss) k).there))], ⟨fi 36 rfl rfl rfl, trivial⟩, fun Lr => t_move rfl rfl rfl (t_samehd (v := .bool false) (by first | exact congrArg Value.bool (decide_eq_false g54) | exact congrArg Value.bool g54 | simp [g54]) (dz rfl hW))⟩
    · exact pz rfl rfl rfl rfl fun _ _ _ h => h
    · exact pz rfl rfl rfl rfl fun _ _ _ h => h
    · exact pz rfl rfl rfl rfl fun _ _ _ h => h
    · exact pz rfl rfl rfl rfl fun _ _ _ h => h
    · exact pz rfl rfl rfl rfl fun _ _ _ h => h
    · exact pz rfl rfl rfl rfl fun _ _ _ h => h
    · exact pz rfl rfl rfl rfl fun _ _ _ h => h
    · exact pz rfl rfl rfl rfl fun _ _ _ h => h
    · exact pz rfl rfl rfl rfl fun _ _ _ h => h
    · exact pz rfl rfl rfl rfl fun _ _ _ h => h
    · exact pz rfl rfl rfl rfl fun _ _ _ h => h
    · exact pz rfl rfl rfl rfl fun _ _ _ h => h
    · exact pz rfl rfl rfl rfl fun _ _ _ h => h
    · exact pz rfl rfl rfl rfl fun _ _ _ h => h
    · exact pz rfl rfl rfl rfl fun _ _ _ h => h
    · exact pz rfl rfl rfl rfl fun _ _ _ h => h
    · exact pz rfl rfl rfl rfl fun _ _ _ h => h
    · exact pz rfl rfl rfl rfl fun _ _ _ h => h
    intro ρ w321 hW
    have u322 : Upd (fun _ => False) w21 w321 := hW
    have zu322 := u322.size
    refine QK.weak [(0, .func (.yield l) #[] #[]), (1, .pointer (some ⟨b3, 0, none⟩)), (2, .pointer (some ⟨b4, 0, none⟩)), (3, .pointer (some ⟨b5, 0, none⟩)), (10, .slice an ns.length cn), (11, .int .i64 (ns.length : Int)), (12, .int .i64 (k : Int)), (72, .bool false)] ⟨rfl, rfl, rfl, rfl, rfl, rfl, rfl, rfl, trivial⟩ (hK25 _ _ (c_cond_f rfl (c_skip (hK12 _ _ (c_region (t_ari rfl rfl rfl rfl rfl (by omega) (t_move rfl rfl rfl (t_nil' ?_))))))))
    exact hK2 (k + 1, pre) _ _ (by show ns.length - (k + 1) < ns.length - k; omega) ⟨rfl, rfl, rfl, rfl, rfl, rfl, rfl, trivial⟩ ⟨(((u4.next u19 (fun _ _ h => h.elim)).next u22 (fun i hi (h : i = bk16) => show T i by first | omega | assumption)).next u322 (fun _ _ h => h.elim)), (by omega), (by rw [filter_succ, if_neg (by simp [barB, g54])]; simpa using hpre), (by show pre.length ≤ (k + 1); omega), (hJ _ _ _ none hJk (Ext.grownBy ((((Upd.refl (fun _ => False) _).next u19 (fun _ _ h => h.elim)).next u22 (fun i hi (h : i = bk16) => show False by first | omega | assumption)).next u322 (fun _ _ h => h.elim))) (fun r e => by cases e))⟩
  ·
   by_cases g41 : (nth ns k).wid < ((nth vs i).v.wid + ((nth vs j).v.wid))
   ·
    rcases Bool.eq_false_or_eq_true ((nth ((nth rows i).ss) k).there) with g54 | g54
    ·
     rcases Bool.eq_false_or_eq_true ((nth ((nth rows j).ss) k).there) with g67 | g67
     ·
      refine WC.weak [(0, .func (.yield l) #[] #[]), (1, .pointer (some ⟨b3, 0, none⟩)), (2, .pointer (some ⟨b4, 0, none⟩)), (3, .pointer (some ⟨b5, 0, none⟩)), (5, .int .i64 (k : Int)), (6, .pointer (some ⟨bk16, 0, none⟩)), (10, .slice an ns.length cn), (11, .int .i64 (ns.length : Int)), (12, .int .i64 (k : Int))] ⟨rfl, rfl, rfl, rfl, rfl, rfl, rfl, rfl, rfl, trivial⟩ (c_drawn followsS' 56 [some (17, some (.pointer (some ⟨bk16, 3, none⟩))), some (18, some (.bool ((nth ns k).single))), some (19, some (.bool false)), some (20, some (.pointer (some ⟨t, 0, none⟩))), some (21, some (.pointer (some ⟨t, 0, none⟩))), some (22, some (.pointer (some ⟨t, 0, none⟩))), some (23, some (.slice av vs.length cv)), some (24, some (.int .i64 (i : Int))), some (25, some (.pointer (some ⟨bv, ov + i * 5, none⟩))), some (26, some (.pointer (some ⟨bv, ov + i * 5 + 4, none⟩))), some (27, some (.int .i64 ((nth vs i).v.wid))), some (28, some (.pointer (some ⟨t, 0, none⟩))), some (29, some (.pointer (some ⟨t, 0, none⟩))), some (30, some (.pointer (some ⟨t, 0, none⟩))), some (31, some (.slice av vs.length cv)), some (32, some (.int .i64 (j : Int))), some (33, some (.pointer (some ⟨bv, ov + j * 5, none⟩))), some (34, some (.pointer (some ⟨bv, ov + j * 5 + 4, none⟩))), some (35, some (.int .i64 ((nth vs j).v.wid))), some (36, some (.int .i64 ((nth vs i).v.wid + ((nth vs j).v.wid)))), some (37, some (.pointer (some ⟨bk16, 2, none⟩))), some (38, some (.int .i64 ((nth ns k).wid))), some (39, some (.bool (decide ((nth ns k).wid < ((nth vs i).v.wid + ((nth vs j).v.wid)))))), some (40, some (.bool (decide ((nth ns k).wid < ((nth vs i).v.wid + ((nth vs j).v.wid)))))), some (41, some (.bool true)), some (42, some (.pointer (some ⟨t, 0, none⟩))), some (43, some (.pointer (some ⟨t, 0, none⟩))), some (44, some (.pointer (some ⟨t, 2, none⟩))), some (45, some (.slice ar rows.length cr)), some (46, some (.int .i64 (i : Int))), some (47, some (.pointer (some ⟨br, 0 + i * 1, none⟩))), some (48, some (.slice ((nth rows i).ao) (((nth rows i).ss).length) ((nth rows i).cap))), some (49, some (.int .i64 (k : Int))), some (50, some (.pointer (some ⟨(nth rows i).g, 0 + k * 5, none⟩))), some (51, some (.pointer (some ⟨(nth rows i).g, 0 + k * 5 + 4, none⟩))), some (52, some (.bool ((nth ((nth rows i).ss) k).there))), some (53, some (.bool ((nth ((nth rows i).ss) k).there))), some (54, some (.bool true)), some (55, some (.pointer (some ⟨t, 0, none⟩))), some (56, some (.pointer (some ⟨t, 0, none⟩))), some (57, some (.pointer (some ⟨t, 2, none⟩))), some (58, some (.slice ar rows.length cr)), some (59, some (.int .i64 (j : Int))), some (60, some (.pointer (some ⟨br, 0 + j * 1, none⟩))), some (61, some (.slice ((nth rows j).ao) (((nth rows j).ss).length) ((nth rows j).cap))), some (62, some (.int .i64 (k : Int))), some (63, some (.pointer (some ⟨(nth rows j).g, 0 + k * 5, none⟩))), some (64, some (.pointer (some ⟨(nth rows j).g, 0 + k * 5 + 4, none⟩))), some (65, some (.bool ((nth ((nth rows j).ss) k).there))), some (66, some (.bool ((nth ((nth rows j).ss) k).there))), some (67, some (.bool true)), some (68, some (.func (.yield l) #[] #[])), some (69, some (.int .i64 (k : Int))), some (70, none), some (71, none), some (72, none)] [[],[0],[1],[2],[3,2],[4,2],[5,2],[2],[6,7,2],[8,2],[9,2],[2],[11,2],[12,2],[13,2],[2],[14,15,2],[16,2],[17,2],[10,18,2],[2],[20,2],[19,21,2],[2,22],[23,2],[24],[25,24],[26,24],[27,24],[24],[28,29,24],[30,24],[24],[31,32,24],[33,24],[34,24],[24,35],[36,24],[37],[38,37],[39,37],[40,37],[37],[41,42,37],[43,37],[37],[44,45,37],[46,37],[47,37],[37,48],[49,37],[50],[50],[51,52,50,50],[53,50],[50,54]] (fun D ρ w => (D 53 = false → Upd (fun _ => False) w21 w) ∧ (D 53 = true → ∃ yb, ρ 53 = .bool yb ∧ ((yb = true → J (pre ++ [⟨k, hkn⟩]) w ∧ Upd T w21 w) ∧ (yb = false → Jx (pre ++ [⟨k, hkn⟩]) w))) ∧ (D 54 = true → ∃ yb, ρ 53 = .bool yb ∧ ρ 54 = .bool (!yb)) ∧ (D 55 = true → ∃ yb, ρ 53 = .bool yb ∧ ρ 55 = .bool (!yb))) rfl rfl rfl (by kernel_rfl) (by kernel_rfl) ⟨(fun _ => (Upd.drew _).to), (fun h => by cases h), (fun h => by cases h), (fun h => by cases h)⟩ ⟨?_, ?_, ?_, ?_, ?_, ?_, ?_, ?_, ?_, ?_, ?_, ?_, ?_, ?_, ?_, ?_, ?_, ?_, ?_, ?_, ?_, ?_, ?_, ?_, ?_, ?_, ?_, ?_, ?_, ?_, ?_, ?_, ?_, ?_, ?_, ?_, ?_, ?_, ?_, ?_, ?_, ?_, ?_, ?_, ?_, ?_, ?_, ?_, ?_, ?_, ?_, ?_, ?_, ?_, ?_, ?_, trivial⟩ ?_)
      · exact pzf Try.underlying72 rfl Try.sizeOf4 (3) rfl rfl rfl rfl rfl fun _ _ _ h => h
      · exact fun D ρ w353 hcD hnD hdD hW => ⟨_, kf_fr [17], fun Lr => t_load Try.isAgg4 rfl rfl rfl ((B23.keep (hW.1 (hcD.late 53 (hcD.late 50 (hcD.late 37 (hcD.late 24 (hcD.late 2 hnD rfl) rfl) rfl) rfl) rfl)) (fun h => h)).get rfl) (dz rfl hW)⟩
      · exact fun D ρ w _ _ _ hW => ⟨[(18, .bool ((nth ns k).single))], ⟨fi 1 rfl rfl rfl, trivial⟩, fun Lr => t_move rfl rfl rfl (t_samehd (v := .bool false) (by first | exact congrArg Value.bool (decide_eq_false g19) | exact congrArg Value.bool g19 | simp [g19]) (dz rfl hW))⟩
      · exact fun D ρ w361 hcD hnD hdD hW => ⟨_, kf_fr [1, 19], fun Lr => t_load Try.isAgg124 rfl rfl rfl ((B26.keep (hW.1 (hcD.late 53 (hcD.late 50 (hcD.late 37 (hcD.late 24 (hcD.late 23 (hcD.late 22 (hcD.late 19 (hcD.late 10 (hcD.late 9 (hcD.late 8 (hcD.late 6 (hcD.late 5 (hcD.late 4 hnD rfl) rfl) rfl) rfl) rfl) rfl) rfl) rfl) rfl) rfl) rfl) rfl) rfl)) (fun h => h)).get rfl) (dz rfl hW)⟩
      · exact pz rfl rfl rfl rfl fun _ _ _ h => h
      · exact pzf Try.underlying160 rfl Try.sizeOf34 (0) rfl rfl rfl rfl rfl fun _ _ _ h => h
      · exact fun D ρ w369 hcD hnD hdD hW => ⟨_, kf_fr [19, 22], fun Lr => t_load Try.isAgg34 rfl rfl rfl (((((htb.keep u4 (show ¬ (T t) by first | omega | assumption)).keep u19 (fun h => h)).keep u22 (show ¬ (t = bk16) by first | omega | assumption)).keep (hW.1 (hcD.late 53 (hcD.late 50 (hcD.late 37 (hcD.late 24 (hcD.late 23 (hcD.late 22 (hcD.late 19 (hcD.late 10 (hcD.late 9 (hcD.late 8 hnD rfl) rfl) rfl) rfl) rfl) rfl) rfl) rfl) rfl) rfl)) (fun h => h)).get rfl) (dz rfl hW)⟩
      · exact fun D ρ w377 hcD hnD hdD hW => ⟨_, kf_fr [2, 19], fun Lr => t_load Try.isAgg3 rfl rfl rfl ((B27.keep (hW.1 (hcD.late 53 (hcD.late 50 (hcD.late 37 (hcD.late 24 (hcD.late 23 (hcD.late 22 (hcD.late 19 (hcD.late 10 (hcD.late 9 (hcD.late 8 hnD rfl) rfl) rfl) rfl) rfl) rfl) rfl) rfl) rfl) rfl)) (fun h => h)).get rfl) (dz rfl hW)⟩
      · exact fun D ρ w385 hcD hnD hdD hW => ⟨_, kf_fr [19, 23, 24], fun Lr => t_index (j := i) Try.underlying34 Try.sizeOf48 rfl rfl rfl rfl ((((D14.keep u19 (fun _ _ h => h)).keep u22 (fun i hi => show ¬ (i = bk16) by omega)).keep (hW.1 (hcD.late 53 (hcD.late 50 (hcD.late 37 (hcD.late 24 (hcD.late 23 (hcD.late 22 (hcD.late 19 (hcD.late 10 (hcD.late 9 hnD rfl) rfl) rfl) rfl) rfl) rfl) rfl) rfl) rfl)) (fun _ _ h => h)).vsl.addr (by omega)) rfl (by omega) (dz rfl hW)⟩
      · exact pzf Try.underlying48 rfl Try.sizeOf3 (ov + i * 5 + 4) rfl rfl rfl rfl rfl fun _ _ _ h => h
      · exact fun D ρ w394 hcD hnD hdD hW => ⟨_, kf_fr [19, 26], fun Lr => t_load Try.isAgg3 rfl rfl rfl (((((D14.keep u19 (fun _ _ h => h)).keep u22 (fun i hi => show ¬ (i = bk16) by omega)).keep (hW.1 (hcD.late 53 (hcD.late 50 (hcD.late 37 (hcD.late 24 (hcD.late 23 (hcD.late 22 (hcD.late 19 hnD rfl) rfl) rfl) rfl) rfl) rfl) rfl)) (fun _ _ h => h)).vsl.at_ i (by omega)) 4 _ rfl) (dz rfl hW)⟩
      · exact fun D ρ w402 hcD hnD hdD hW => ⟨_, kf_fr [1, 19], fun Lr => t_load Try.isAgg124 rfl rfl rfl ((B26.keep (hW.1 (hcD.late 53 (hcD.late 50 (hcD.late 37 (hcD.late 24 (hcD.late 23 (hcD.late 22 (hcD.late 19 (hcD.late 18 (hcD.late 17 (hcD.late 16 (hcD.late 14 (hcD.late 13 (hcD.late 12 hnD rfl) rfl) rfl) rfl) rfl) rfl) rfl) rfl) rfl) rfl) rfl) rfl) rfl)) (fun h => h)).get rfl) (dz rfl hW)⟩
      · exact pz rfl rfl rfl rfl fun _ _ _ h => h
      · exact pzf Try.underlying160 rfl Try.sizeOf34 (0) rfl rfl rfl rfl rfl fun _ _ _ h => h
      · exact fun D ρ w410 hcD hnD hdD hW => ⟨_, kf_fr [19, 30], fun Lr => t_load Try.isAgg34 rfl rfl rfl (((((htb.keep u4 (show ¬ (T t) by first | omega | assumption)).keep u19 (fun h => h)).keep u22 (show ¬ (t = bk16) by first | omega | assumption)).keep (hW.1 (hcD.late 53 (hcD.late 50 (hcD.late 37 (hcD.late 24 (hcD.late 23 (hcD.late 22 (hcD.late 19 (hcD.late 18 (hcD.late 17 (hcD.late 16 hnD rfl) rfl) rfl) rfl) rfl) rfl) rfl) rfl) rfl) rfl)) (fun h => h)).get rfl) (dz rfl hW)⟩
      · exact fun D ρ w418 hcD hnD hdD hW => ⟨_, kf_fr [3, 19], fun Lr => t_load Try.isAgg3 rfl rfl rfl ((B28.keep (hW.1 (hcD.late 53 (hcD.late 50 (hcD.late 37 (hcD.late 24 (hcD.late 23 (hcD.late 22 (hcD.late 19 (hcD.late 18 (hcD.late 17 (hcD.late 16 hnD rfl) rfl) rfl) rfl) rfl) rfl) rfl) rfl) rfl) rfl)) (fun h => h)).get rfl) (dz rfl hW)⟩
      · exact fun D ρ w426 hcD hnD hdD hW => ⟨_, kf_fr [19, 31, 32], fun Lr => t_index (j := j) Try.underlying34 Try.sizeOf48 rfl rfl rfl rfl ((((D14.keep u19 (fun _ _ h => h)).keep u22 (fun i hi => show ¬ (i = bk16) by omega)).keep (hW.1 (hcD.late 53 (hcD.late 50 (hcD.late 37 (hcD.late 24 (hcD.late 23 (hcD.late 22 (hcD.late 19 (hcD.late 18 (hcD.late 17 hnD rfl) rfl) rfl) rfl) rfl) rfl) rfl) rfl) rfl)) (fun _ _ h => h)).vsl.addr (by omega)) rfl (by omega) (dz rfl hW)⟩
      · exact pzf Try.underlying48 rfl Try.sizeOf3 (ov + j * 5 + 4) rfl rfl rfl rfl rfl fun _ _ _ h => h
      · exact fun D ρ w435 hcD hnD hdD hW => ⟨_, kf_fr [19, 34], fun Lr => t_load Try.isAgg3 rfl rfl rfl (((((D14.keep u19 (fun _ _ h => h)).keep u22 (fun i hi => show ¬ (i = bk16) by omega)).keep (hW.1 (hcD.late 53 (hcD.late 50 (hcD.late 37 (hcD.late 24 (hcD.late 23 (hcD.late 22 (hcD.late 19 hnD rfl) rfl) rfl) rfl) rfl) rfl) rfl)) (fun _ _ h => h)).vsl.at_ j (by omega)) 4 _ rfl) (dz rfl hW)⟩
      · exact fun D ρ w443 hcD hnD hdD hW => ⟨_, kf_fr [19, 27, 35], fun Lr => t_ari rfl rfl rfl rfl rfl (by omega) (dz rfl hW)⟩
      · exact pzf Try.underlying72 rfl Try.sizeOf3 (2) rfl rfl rfl rfl rfl fun _ _ _ h => h
      · exact fun D ρ w450 hcD hnD hdD hW => ⟨_, kf_fr [19, 37], fun Lr => t_load Try.isAgg3 rfl rfl rfl ((B23.keep (hW.1 (hcD.late 53 (hcD.late 50 (hcD.late 37 (hcD.late 24 (hcD.late 23 (hcD.late 22 hnD rfl) rfl) rfl) rfl) rfl) rfl)) (fun h => h)).get rfl) (dz rfl hW)⟩
      · exact pz rfl rfl rfl rfl fun _ _ _ h => h
      · exact pz rfl rfl rfl rfl fun _ _ _ h => h
      · exact fun D ρ w _ _ _ hW => ⟨[(40, .bool (decide ((nth ns k).wid < ((nth vs i).v.wid + ((nth vs j).v.wid)))))], ⟨fi 23 rfl rfl rfl, trivial⟩, fun Lr => t_move rfl rfl rfl (t_samehd (v := .bool true) (by first | exact congrArg Value.bool (decide_eq_true g41) | exact congrArg Value.bool g41 | simp [g41]) (dz rfl hW))⟩
      · exact fun D ρ w458 hcD hnD hdD hW => ⟨_, kf_fr [1, 41], fun Lr => t_load Try.isAgg124 rfl rfl rfl ((B26.keep (hW.1 (hcD.late 53 (hcD.late 50 (hcD.late 37 (hcD.late 36 (hcD.late 35 (hcD.late 34 (hcD.late 33 (hcD.late 31 (hcD.late 30 (hcD.late 28 (hcD.late 27 (hcD.late 26 hnD rfl) rfl) rfl) rfl) rfl) rfl) rfl) rfl) rfl) rfl) rfl) rfl)) (fun h => h)).get rfl) (dz rfl hW)⟩
      · exact pz rfl rfl rfl rfl fun _ _ _ h => h
      · exact pzf Try.underlying160 rfl Try.sizeOf158 (2) rfl rfl rfl rfl rfl fun _ _ _ h => h
      · exact fun D ρ w466 hcD hnD hdD hW => ⟨_, kf_fr [41, 44], fun Lr => t_load Try.isAgg158 rfl rfl rfl (((((htb.keep u4 (show ¬ (T t) by first | omega | assumption)).keep u19 (fun h => h)).keep u22 (show ¬ (t = bk16) by first | omega | assumption)).keep (hW.1 (hcD.late 53 (hcD.late 50 (hcD.late 37 (hcD.late 36 (hcD.late 35 (hcD.late 34 (hcD.late 33 (hcD.late 31 (hcD.late 30 hnD rfl) rfl) rfl) rfl) rfl) rfl) rfl) rfl) rfl)) (fun h => h)).get rfl) (dz rfl hW)⟩
      · exact fun D ρ w474 hcD hnD hdD hW => ⟨_, kf_fr [2, 41], fun Lr => t_load Try.isAgg3 rfl rfl rfl ((B27.keep (hW.1 (hcD.late 53 (hcD.late 50 (hcD.late 37 (hcD.late 36 (hcD.late 35 (hcD.late 34 (hcD.late 33 (hcD.late 31 (hcD.late 30 hnD rfl) rfl) rfl) rfl) rfl) rfl) rfl) rfl) rfl)) (fun h => h)).get rfl) (dz rfl hW)⟩
      · exact fun D ρ w482 hcD hnD hdD hW => ⟨_, kf_fr [41, 45, 46], fun Lr => t_index (j := i) Try.underlying158 Try.sizeOf157 rfl rfl rfl rfl ((((D14.keep u19 (fun _ _ h => h)).keep u22 (fun i hi => show ¬ (i = bk16) by omega)).keep (hW.1 (hcD.late 53 (hcD.late 50 (hcD.late 37 (hcD.late 36 (hcD.late 35 (hcD.late 34 (hcD.late 33 (hcD.late 31 hnD rfl) rfl) rfl) rfl) rfl) rfl) rfl) rfl)) (fun _ _ h => h)).ssl.addr (by omega)) rfl (by omega) (dz rfl hW)⟩
      · exact fun D ρ w491 hcD hnD hdD hW => ⟨_, kf_fr [41, 47], fun Lr => t_load Try.isAgg157 rfl rfl rfl (((((D14.keep u19 (fun _ _ h => h)).keep u22 (fun i hi => show ¬ (i = bk16) by omega)).keep (hW.1 (hcD.late 53 (hcD.late 50 (hcD.late 37 (hcD.late 36 (hcD.late 35 (hcD.late 34 (hcD.late 33 hnD rfl) rfl) rfl) rfl) rfl) rfl) rfl)) (fun _ _ h => h)).ssl.at_ i (by omega)) 0 _ rfl) (dz rfl hW)⟩
      · exact pz rfl rfl rfl rfl fun _ _ _ h => h
      · exact fun D ρ w499 hcD hnD hdD hW => ⟨_, kf_fr [41, 48, 49], fun Lr => t_index (j := k) Try.underlying157 Try.sizeOf141 rfl rfl rfl rfl (((((D14.keep u19 (fun _ _ h => h)).keep u22 (fun i hi => show ¬ (i = bk16) by omega)).keep (hW.1 (hcD.late 53 (hcD.late 50 (hcD.late 37 (hcD.late 36 (hcD.late 35 (hcD.late 34 hnD rfl) rfl) rfl) rfl) rfl) rfl)) (fun _ _ h => h)).rsl (nth rows i) (nth_mem (by omega))).addr (by omega)) rfl (by omega) (dz rfl hW)⟩
      · exact pzf Try.underlying141 rfl Try.sizeOf4 (0 + k * 5 + 4) rfl rfl rfl rfl rfl fun _ _ _ h => h
      · exact fun D ρ w508 hcD hnD hdD hW => ⟨_, kf_fr [41, 51], fun Lr => t_load Try.isAgg4 rfl rfl rfl ((((((D14.keep u19 (fun _ _ h => h)).keep u22 (fun i hi => show ¬ (i = bk16) by omega)).keep (hW.1 (hcD.late 53 (hcD.late 50 (hcD.late 37 (hcD.late 36 hnD rfl) rfl) rfl) rfl)) (fun _ _ h => h)).rsl (nth rows i) (nth_mem (by omega))).at_ k (by omega)) 4 _ rfl) (dz rfl hW)⟩
      · exact pz rfl rfl rfl rfl fun _ _ _ h => h
      · exact fun D ρ w _ _ _ hW => ⟨[(53, .bool ((nth ((nth rows i).ss) k).there))], ⟨fi 36 rfl rfl rfl, trivial⟩, fun Lr => t_move rfl rfl rfl (t_samehd (v := .bool true) (by first | exact congrArg Value.bool (decide_eq_true g54) | exact congrArg Value.bool g54 | simp [g54]) (dz rfl hW))⟩
      · exact fun D ρ w516 hcD hnD hdD hW => ⟨_, kf_fr [1, 54], fun Lr => t_load Try.isAgg124 rfl rfl rfl ((B26.keep (hW.1 (hcD.late 53 (hcD.late 50 (hcD.late 49 (hcD.late 48 (hcD.late 47 (hcD.late 46 (hcD.late 44 (hcD.late 43 (hcD.late 41 (hcD.late 40 (hcD.late 39 hnD rfl) rfl) rfl) rfl) rfl) rfl) rfl) rfl) rfl) rfl) rfl)) (fun h => h)).get rfl) (dz rfl hW)⟩
      · exact pz rfl rfl rfl rfl fun _ _ _ h => h
      · exact pzf Try.underlying160 rfl Try.sizeOf158 (2) rfl rfl rfl rfl rfl fun _ _ _ h => h
      · exact fun D ρ w524 hcD hnD hdD hW => ⟨_, kf_fr [54, 57], fun Lr => t_load Try.isAgg158 rfl rfl rfl (((((htb.keep u4 (show ¬ (T t) by first | omega | assumption)).keep u19 (fun h => h)).keep u22 (show ¬ (t = bk16) by first | omega | assumption)).keep (hW.1 (hcD.late 53 (hcD.late 50 (hcD.late 49 (hcD.late 48 (hcD.late 47 (hcD.late 46 (hcD.late 44 (hcD.late 43 hnD rfl) rfl) rfl) rfl) rfl) rfl) rfl) rfl)) (fun h => h)).get rfl) (dz rfl hW)⟩
      · exact fun D ρ w532 hcD hnD hdD hW => ⟨_, kf_fr [3, 54], fun Lr => t_load Try.isAgg3 rfl rfl rfl ((B28.keep (hW.1 (hcD.late 53 (hcD.late 50 (hcD.late 49 (hcD.late 48 (hcD.late 47 (hcD.late 46 (hcD.late 44 (hcD.late 43 hnD rfl) rfl) rfl) rfl) rfl) rfl) rfl) rfl)) (fun h => h)).get rfl) (dz rfl hW)⟩
      · exact fun D ρ w540 hcD hnD hdD hW => ⟨_, kf_fr [54, 58, 59], fun Lr => t_index (j := j) Try.underlying158 Try.sizeOf157 rfl rfl rfl rfl ((((D14.keep u19 (fun _ _ h => h)).keep u22 (fun i hi => show ¬ (i = bk16) by omega)).keep (hW.1 (hcD.late 53 (hcD.late 50 (hcD.late 49 (hcD.late 48 (hcD.late 47 (hcD.late 46 (hcD.late 44 hnD rfl) rfl) rfl) rfl) rfl) rfl) rfl)) (fun _ _ h => h)).ssl.addr (by omega)) rfl (by omega) (dz rfl hW)⟩
      · exact fun D ρ w549 hcD hnD hdD hW => ⟨_, kf_fr [54, 60], fun Lr => t_load Try.isAgg157 rfl rfl rfl (((((D14.keep u19 (fun _ _ h => h)).keep u22 (fun i hi => show ¬ (i = bk16) by omega)).keep (hW.1 (hcD.late 53 (hcD.late 50 (hcD.late 49 (hcD.late 48 (hcD.late 47 (hcD.late 46 hnD rfl) rfl) rfl) rfl) rfl) rfl)) (fun _ _ h => h)).ssl.at_ j (by omega)) 0 _ rfl) (dz rfl hW)⟩
      · exact pz rfl rfl rfl rfl fun _ _ _ h => h
      · exact fun D ρ w557 hcD hnD hdD hW => ⟨_, kf_fr [54, 61, 62], fun Lr => t_index (j := k) Try.underlying157 Try.sizeOf141 rfl rfl rfl rfl (((((D14.keep u19 (fun _ _ h => h)).keep u22 (fun i hi => show ¬ (i = bk16) by omega)).keep (hW.1 (hcD.late 53 (hcD.late 50 (hcD.late 49 (hcD.late 48 (hcD.late 47 hnD rfl) rfl) rfl) rfl) rfl)) (fun _ _ h => h)).rsl (nth rows j) (nth_mem (by omega))).addr (by omega)) rfl (by omega) (dz rfl hW)⟩
      · exact pzf Try.underlying141 rfl Try.sizeOf4 (0 + k * 5 + 4) rfl rfl rfl rfl rfl fun _ _ _ h => h
      · exact fun D ρ w566 hcD hnD hdD hW => ⟨_, kf_fr [54, 64], fun Lr => t_load Try.isAgg4 rfl rfl rfl ((((((D14.keep u19 (fun _ _ h => h)).keep u22 (fun i hi => show ¬ (i = bk16) by omega)).keep (hW.1 (hcD.late 53 (hcD.late 50 (hcD.late 49 hnD rfl) rfl) rfl)) (fun _ _ h => h)).rsl (nth rows j) (nth_mem (by omega))).at_ k (by omega)) 4 _ rfl) (dz rfl hW)⟩
      · exact pz rfl rfl rfl rfl fun _ _ _ h => h
      · exact fun D ρ w _ _ _ hW => ⟨[(66, .bool ((nth ((nth rows j).ss) k).there))], ⟨fi 49 rfl rfl rfl, trivial⟩, fun Lr => t_move rfl rfl rfl (t_samehd (v := .bool true) (by first | exact congrArg Value.bool (decide_eq_true g67) | exact congrArg Value.bool g67 | simp [g67]) (dz rfl hW))⟩
      · exact pz rfl rfl rfl rfl fun _ _ _ h => h
      · exact pz rfl rfl rfl rfl fun _ _ _ h => h
      ·
       intro D ρ w574 hcD hnD hdD hW
       obtain ⟨u575, F576, F577, F578⟩ := hW
       have u579 := u575 hnD
       have zu579 := u579.size
       refine ⟨_, kf_fr [67, 68, 69], fun Lr => ?_⟩
       refine t_yield (vs := [.int .i64 (k : Int)]) rfl rfl rfl rfl (hY pre ⟨k, hkn⟩ _ (hJ _ _ _ none hJk (Ext.grownBy ((((Upd.refl (fun _ => False) _).next u19 (fun _ _ h => h.elim)).next u22 (fun i hi (h : i = bk16) => show False by first | omega | assumption)).next u579 (fun _ _ h => h.elim))) (fun r e => by cases e)) hpl21) (by rintro e w' (⟨rfl, _⟩ | ⟨rfl, _⟩) <;> exact ⟨_, rfl⟩) (fun v581 w582 r583 => ?_)
       obtain ⟨yb, rfl, hrd⟩ : ∃ b, v581 = .bool b ∧ ((b = true → J (pre ++ [⟨k, hkn⟩]) w582 ∧ Upd T w574 w582) ∧ (b = false → Jx (pre ++ [⟨k, hkn⟩]) w582)) := by
        rcases r583 with ⟨e, h⟩ | ⟨e, h⟩
        · injection e with e; exact ⟨true, e, fun _ => h, fun h => by cases h⟩
        · injection e with e; exact ⟨false, e, fun h => (by cases h), fun _ => h⟩
       exact dzn rfl ⟨(fun h => by cases h), (fun _ => ⟨yb, rfl, ⟨fun h => ⟨(hrd.1 h).1, (Ext.to u579).trans (hrd.1 h).2⟩, hrd.2⟩⟩), (fun h => absurd ((hcD.late 54 hnD rfl).symm.trans h) (by decide)), (fun h => absurd ((hcD.late 55 (hcD.late 54 hnD rfl) rfl).symm.trans h) (by decide))⟩
      ·
       intro D ρ w584 hcD hnD hdD hW
       obtain ⟨u585, F586, F587, F588⟩ := hW
       obtain ⟨yb, e590, e589⟩ := F586 (hdD 53 rfl)
       refine ⟨[(67, .bool true), (70, .bool yb)], ⟨fi 50 rfl rfl rfl, fi 53 rfl rfl e590.symm, trivial⟩, fun Lr => ?_⟩
       refine t_not rfl rfl rfl ?_
       exact dzn rfl ⟨u585, F586, (fun _ => ⟨yb, e590, rfl⟩), F588⟩
      ·
       intro D ρ w591 hcD hnD hdD hW
       obtain ⟨u592, F593, F594, F595⟩ := hW
       obtain ⟨yb, e597, e596⟩ := F594 (hdD 54 rfl)
       refine ⟨[(67, .bool true), (71, .bool (!yb))], ⟨fi 50 rfl rfl rfl, fi 54 rfl rfl e596.symm, trivial⟩, fun Lr => ?_⟩
       refine t_pick_t rfl rfl rfl rfl ?_
       exact dzn rfl ⟨u592, F593, F594, (fun _ => ⟨yb, e597, rfl⟩)⟩
      intro ρ w598 hW
      obtain ⟨u599, F600, F601, F602⟩ := hW
      obtain ⟨yb, e603, hrd⟩ := F600 rfl
      obtain ⟨b605, e606, e604⟩ := F601 rfl
      obtain rfl : yb = b605 := Value.bool.inj (e603.symm.trans e606)
      obtain ⟨b608, e609, e607⟩ := F602 rfl
      obtain rfl : yb = b608 := Value.bool.inj (e603.symm.trans e609)
      refine QK.weak [(0, .func (.yield l) #[] #[]), (1, .pointer (some ⟨b3, 0, none⟩)), (2, .pointer (some ⟨b4, 0, none⟩)), (3, .pointer (some ⟨b5, 0, none⟩)), (10, .slice an ns.length cn), (11, .int .i64 (ns.length : Int)), (12, .int .i64 (k : Int)), (72, .bool (!yb))] ⟨rfl, rfl, rfl, rfl, rfl, rfl, rfl, (look_nd (j := 55) rfl rfl rfl e607), trivial⟩ (hK25 _ _ (c_cond rfl (fun g72 => ?_) (fun g72 => ?_)))
      ·
       refine c_ret (f_ret0 Try.results108 ?_)
       exact ⟨_, rfl, .inr ⟨_, hrd.2 (by simpa using g72)⟩⟩
      ·
       obtain ⟨hJ2, u610⟩ := hrd.1 (by simpa using g72)
       have zu610 := u610.size
       refine c_skip (hK12 _ _ (c_region (t_ari rfl rfl rfl rfl rfl (by omega) (t_move rfl rfl rfl (t_nil' ?_)))))
       exact hK2 (k + 1, pre ++ [⟨k, hkn⟩]) _ _ (by show ns.length - (k + 1) < ns.length - k; omega) ⟨rfl, rfl, rfl, rfl, rfl, rfl, rfl, trivial⟩ ⟨(((u4.next u19 (fun _ _ h => h.elim)).next u22 (fun i hi (h : i = bk16) => show T i by first | omega | assumption)).next u610 (fun i hi (h : T i) => show T i by first | omega | assumption)), (by omega), (by show (pre ++ [(⟨k, hkn⟩ : Ix ns.length)]).map (·.1) = _; rw [vals_snoc hpre, filter_succ, if_pos (by simp only [barB]; simp_all)]), (by show (pre ++ [_]).length ≤ k + 1; simp; omega), hJ2⟩
     ·
      refine WC.weak [(0, .func (.yield l) #[] #[]), (1, .pointer (some ⟨b3, 0, none⟩)), (2, .pointer (some ⟨b4, 0, none⟩)), (3, .pointer (some ⟨b5, 0, none⟩)), (5, .int .i64 (k : Int)), (6, .pointer (some ⟨bk16, 0, none⟩)), (10, .slice an ns.length cn), (11, .int .i64 (ns.length : Int)), (12, .int .i64 (k : Int))] ⟨rfl, rfl, rfl, rfl, rfl, rfl, rfl, rfl, rfl, trivial⟩ (c_drawn followsS' 56 [some (17, some (.pointer (some ⟨bk16, 3, none⟩))), some (18, some (.bool ((nth ns k).single))), some (19, some (.bool false)), some (20, some (.pointer (some ⟨t, 0, none⟩))), some (21, some (.pointer (some ⟨t, 0, none⟩))), some (22, some (.pointer (some ⟨t, 0, none⟩))), some (23, some (.slice av vs.length cv)), some (24, some (.int .i64 (i : Int))), some (25, some (.pointer (some ⟨bv, ov + i * 5, none⟩))), some (26, some (.pointer (some ⟨bv, ov + i * 5 + 4, none⟩))), some (27, some (.int .i64 ((nth vs i).v.wid))), some (28, some (.pointer (some ⟨t, 0, none⟩))), some (29, some (.pointer (some ⟨t, 0, none⟩))), some (30, some (.pointer (some ⟨t, 0, none⟩))), some (31, some (.slice av vs.length cv)), some (32, some (.int .i64 (j : Int))), some (33, some (.pointer (some ⟨bv, ov + j * 5, none⟩))), some (34, some (.pointer (some ⟨bv, ov + j * 5 + 4, none⟩))), some (35, some (.int .i64 ((nth vs j).v.wid))), some (36, some (.int .i64 ((nth vs i).v.wid + ((nth vs j).v.wid)))), some (37, some (.pointer (some ⟨bk16, 2, none⟩))), some (38, some (.int .i64 ((nth ns k).wid))), some (39, some (.bool (decide ((nth ns k).wid < ((nth vs i).v.wid + ((nth vs j).v.wid)))))), some (40, some (.bool (decide ((nth ns k).wid < ((nth vs i).v.wid + ((nth vs j).v.wid)))))), some (41, some (.bool true)), some (42, some (.pointer (some ⟨t, 0, none⟩))), some (43, some (.pointer (some ⟨t, 0, none⟩))), some (44, some (.pointer (some ⟨t, 2, none⟩))), some (45, some (.slice ar rows.length cr)), some (46, some (.int .i64 (i : Int))), some (47, some (.pointer (some ⟨br, 0 + i * 1, none⟩))), some (48, some (.slice ((nth rows i).ao) (((nth rows i).ss).length) ((nth rows i).cap))), some (49, some (.int .i64 (k : Int))), some (50, some (.pointer (some ⟨(nth rows i).g, 0 + k * 5, none⟩))), some (51, some (.pointer (some ⟨(nth rows i).g, 0 + k * 5 + 4, none⟩))), some (52, some (.bool ((nth ((nth rows i).ss) k).there))), some (53, some (.bool ((nth ((nth rows i).ss) k).there))), some (54, some (.bool true)), some (55, some (.pointer (some ⟨t, 0, none⟩))), some (56, some (.pointer (some ⟨t, 0, none⟩))), some (57, some (.pointer (some ⟨t, 2, none⟩))), some (58, some (.slice ar rows.length cr)), some (59, some (.int .i64 (j : Int))), some (60, some (.pointer (some ⟨br, 0 + j * 1, none⟩))), some (61, some (.slice ((nth rows j).ao) (((nth rows j).ss).length) ((nth rows j).cap))), some (62, some (.int .i64 (k : Int))), some (63, some (.pointer (some ⟨(nth rows j).g, 0 + k * 5, none⟩))), some (64, some (.pointer (some ⟨(nth rows j).g, 0 + k * 5 + 4, none⟩))), some (65, some (.bool ((nth ((nth rows j).ss) k).there))), some (66, some (.bool ((nth ((nth rows j).ss) k).there))), some (67, some (.bool false)), some (68, some (undef)), some (69, some (undef)), some (70, some (undef)), some (71, some (undef)), some (72, some (.bool false))] [[],[0],[1],[2],[3,2],[4,2],[5,2],[2],[6,7,2],[8,2],[9,2],[2],[11,2],[12,2],[13,2],[2],[14,15,2],[16,2],[17,2],[10,18,2],[2],[20,2],[19,21,2],[2,22],[23,2],[24],[25,24],[26,24],[27,24],[24],[28,29,24],[30,24],[24],[31,32,24],[33,24],[34,24],[24,35],[36,24],[37],[38,37],[39,37],[40,37],[37],[41,42,37],[43,37],[37],[44,45,37],[46,37],[47,37],[37,48],[49,37],[50],[50],[51,52,50,50],[53,50],[50,54]] (fun _ _ w => Upd (fun _ => False) w21 w) rfl rfl rfl (by kernel_rfl) (by kernel_rfl) (Upd.drew _).to ⟨?_, ?_, ?_, ?_, ?_, ?_, ?_, ?_, ?_, ?_, ?_, ?_, ?_, ?_, ?_, ?_, ?_, ?_, ?_, ?_, ?_, ?_, ?_, ?_, ?_, ?_, ?_, ?_, ?_, ?_, ?_, ?_, ?_, ?_, ?_, ?_, ?_, ?_, ?_, ?_, ?_, ?_, ?_, ?_, ?_, ?_, ?_, ?_, ?_, ?_, ?_, ?_, ?_, ?_, ?_, ?_, trivial⟩ ?_)
      · exact pzf Try.underlying72 rfl Try.sizeOf4 (3) rfl rfl rfl rfl rfl fun _ _ _ h => h
      ·
       intro D ρ w620 hcD hnD hdD hW
       have zhW := hW.size
       refine ⟨_, kf_fr [17], fun Lr => ?_⟩
       have B623 := (B23.keep hW (fun h => h))
       refine t_load Try.isAgg4 rfl rfl rfl (B623.get rfl) ?_
       exact dz rfl hW
      · exact fun D ρ w _ _ _ hW => ⟨[(18, .bool ((nth ns k).single))], ⟨fi 1 rfl rfl rfl, trivial⟩, fun Lr => t_move rfl rfl rfl (t_samehd (v := .bool false) (by first | exact congrArg Value.bool (decide_eq_false g19) | exact congrArg Value.bool g19 | simp [g19]) (dz rfl hW))⟩
      ·
       intro D ρ w624 hcD hnD hdD hW
       have zhW := hW.size
       refine ⟨_, kf_fr [1, 19], fun Lr => ?_⟩
       have B627 := (B26.keep hW (fun h => h))
       refine t_load Try.isAgg124 rfl rfl rfl (B627.get rfl) ?_
       exact dz rfl hW
      · exact pz rfl rfl rfl rfl fun _ _ _ h => h
      · exact pzf Try.underlying160 rfl Try.sizeOf34 (0) rfl rfl rfl rfl rfl fun _ _ _ h => h
      ·
       intro D ρ w628 hcD hnD hdD hW
       have zhW := hW.size
       refine ⟨_, kf_fr [19, 22], fun Lr => ?_⟩
       have B631 := ((((htb.keep u4 (show ¬ (T t) by first | omega | assumption)).keep u19 (fun h => h)).keep u22 (show ¬ (t = bk16) by first | omega | assumption)).keep hW (fun h => h))
       refine t_load Try.isAgg34 rfl rfl rfl (B631.get rfl) ?_
       exact dz rfl hW
      ·
       intro D ρ w632 hcD hnD hdD hW
       have zhW := hW.size
       refine ⟨_, kf_fr [2, 19], fun Lr => ?_⟩
       have B635 := (B27.keep hW (fun h => h))
       refine t_load Try.isAgg3 rfl rfl rfl (B635.get rfl) ?_
       exact dz rfl hW
      ·
       intro D ρ w636 hcD hnD hdD hW
       have zhW := hW.size
       refine ⟨_, kf_fr [19, 23, 24], fun Lr => ?_⟩
       have D639 := (((D14.keep u19 (fun _ _ h => h)).keep u22 (fun i hi => show ¬ (i = bk16) by omega)).keep hW (fun _ _ h => h))
       have i640 : i < vs.length := (by omega)
       refine t_index (j := i) Try.underlying34 Try.sizeOf48 rfl rfl rfl rfl (D639.vsl.addr (by omega)) rfl i640 ?_
       exact dz rfl hW
      · exact pzf Try.underlying48 rfl Try.sizeOf3 (ov + i * 5 + 4) rfl rfl rfl rfl rfl fun _ _ _ h => h
      ·
       intro D ρ w641 hcD hnD hdD hW
       have zhW := hW.size
       refine ⟨_, kf_fr [19, 26], fun Lr => ?_⟩
       have D644 := (((D14.keep u19 (fun _ _ h => h)).keep u22 (fun i hi => show ¬ (i = bk16) by omega)).keep hW (fun _ _ h => h))
       refine t_load Try.isAgg3 rfl rfl rfl ((D644.vsl.at_ i (by omega)) 4 _ rfl) ?_
       exact dz rfl hW
      ·
       intro D ρ w645 hcD hnD hdD hW
       have zhW := hW.size
       refine ⟨_, kf_fr [1, 19], fun Lr => ?_⟩
       have B648 := (B26.keep hW (fun h => h))
       refine t_load Try.isAgg124 rfl rfl rfl (B648.get rfl) ?_
       exact dz rfl hW
      · exact pz rfl rfl rfl rfl fun _ _ _ h => h
      · exact pzf Try.underlying160 rfl Try.sizeOf34 (0) rfl rfl rfl rfl rfl fun _ _ _ h => h
      ·
       intro D ρ w649 hcD hnD hdD hW
       have zhW := hW.size
       refine ⟨_, kf_fr [19, 30], fun Lr => ?_⟩
       have B652 := ((((htb.keep u4 (show ¬ (T t) by first | omega | assumption)).keep u19 (fun h => h)).keep u22 (show ¬ (t = bk16) by first | omega | assumption)).keep hW (fun h => h))
       refine t_load Try.isAgg34 rfl rfl rfl (B652.get rfl) ?_
       exact dz rfl hW
      ·
       intro D ρ w653 hcD hnD hdD hW
       have zhW := hW.size
       refine ⟨_, kf_fr [3, 19], fun Lr => ?_⟩
       have B656 := (B28.keep hW (fun h => h))
       refine t_load Try.isAgg3 rfl rfl rfl (B656.get rfl) ?_
       exact dz rfl hW
      ·
       intro D ρ w657 hcD hnD hdD hW
       have zhW := hW.size
       refine ⟨_, kf_fr [19, 31, 32], fun Lr => ?_⟩
       have D660 := (((D14.keep u19 (fun _ _ h => h)).keep u22 (fun i hi => show ¬ (i = bk16) by omega)).keep hW (fun _ _ h => h))
       have i661 : j < vs.length := (by omega)
       refine t_index (j := j) Try.underlying34 Try.sizeOf48 rfl rfl rfl rfl (D660.vsl.addr (by omega)) rfl i661 ?_
       exact dz rfl hW
      · exact pzf Try.underlying48 rfl Try.sizeOf3 (ov + j * 5 + 4) rfl rfl rfl rfl rfl fun _ _ _ h => h
      ·
       intro D ρ w662 hcD hnD hdD hW
       have zhW := hW.size
       refine ⟨_, kf_fr [19, 34], fun Lr => ?_⟩
       have D665 := (((D14.keep u19 (fun _ _ h => h)).keep u22 (fun i hi => show ¬ (i = bk16) by omega)).keep hW (fun _ _ h => h))
       refine t_load Try.isAgg3 rfl rfl rfl ((D665.vsl.at_ j (by omega)) 4 _ rfl) ?_
       exact dz rfl hW
      ·
       intro D ρ w666 hcD hnD hdD hW
       have zhW := hW.size
       refine ⟨_, kf_fr [19, 27, 35], fun Lr => ?_⟩
       refine t_ari rfl rfl rfl rfl rfl (by omega) ?_
       exact dz rfl hW
      · exact pzf Try.underlying72 rfl Try.sizeOf3 (2) rfl rfl rfl rfl rfl fun _ _ _ h => h
      ·
       intro D ρ w669 hcD hnD hdD hW
       have zhW := hW.size
       refine ⟨_, kf_fr [19, 37], fun Lr => ?_⟩
       have B672 := (B23.keep hW (fun h => h))
       refine t_load Try.isAgg3 rfl rfl rfl (B672.get rfl) ?_
       exact dz rfl hW
      · exact pz rfl rfl rfl rfl fun _ _ _ h => h
      · exact pz rfl rfl rfl rfl fun _ _ _ h => h
      · exact fun D ρ w _ _ _ hW => ⟨[(40, .bool (decide ((nth ns k).wid < ((nth vs i).v.wid + ((nth vs j).v.wid)))))], ⟨fi 23 rfl rfl rfl, trivial⟩, fun Lr => t_move rfl rfl rfl (t_samehd (v := .bool true) (by first | exact congrArg Value.bool (decide_eq_true g41) | exact congrArg Value.bool g41 | simp [g41]) (dz rfl hW))⟩
      ·
       intro D ρ w673 hcD hnD hdD hW
       have zhW := hW.size
       refine ⟨_, kf_fr [1, 41], fun Lr => ?_⟩
       have B676 := (B26.keep hW (fun h => h))
       refine t_load Try.isAgg124 rfl rfl rfl (B676.get rfl) ?_
       exact dz rfl hW
      · exact pz rfl rfl rfl rfl fun _ _ _ h => h
      · exact pzf Try.underlying160 rfl Try.sizeOf158 (2) rfl rfl rfl rfl rfl fun _ _ _ h => h
      ·
       intro D ρ w677 hcD hnD hdD hW
       have zhW := hW.size
       refine ⟨_, kf_fr [41, 44], fun Lr => ?_⟩
       have B680 := ((((htb.keep u4 (show ¬ (T t) by first | omega | assumption)).keep u19 (fun h => h)).keep u22 (show ¬ (t = bk16) by first | omega | assumption)).keep hW (fun h => h))
       refine t_load Try.isAgg158 rfl rfl rfl (B680.get rfl) ?_
       exact dz rfl hW
      ·
       intro D ρ w681 hcD hnD hdD hW
       have zhW := hW.size
       refine ⟨_, kf_fr [2, 41], fun Lr => ?_⟩
       have B684 := (B27.keep hW (fun h => h))
       refine t_load Try.isAgg3 rfl rfl rfl (B684.get rfl) ?_
       exact dz rfl hW
      ·
       intro D ρ w685 hcD hnD hdD hW
       have zhW := hW.size
       refine ⟨_, kf_fr [41, 45, 46], fun Lr => ?_⟩
       have D688 := (((D14.keep u19 (fun _ _ h => h)).keep u22 (fun i hi => show ¬ (i = bk16) by omega)).keep hW (fun _ _ h => h))
       have i689 : i < rows.length := (by omega)
       refine t_index (j := i) Try.underlying158 Try.sizeOf157 rfl rfl rfl rfl (D688.ssl.addr (by omega)) rfl i689 ?_
       exact dz rfl hW
      ·
       intro D ρ w690 hcD hnD hdD hW
       have zhW := hW.size
       refine ⟨_, kf_fr [41, 47], fun Lr => ?_⟩
       have D693 := (((D14.keep u19 (fun _ _ h => h)).keep u22 (fun i hi => show ¬ (i = bk16) by omega)).keep hW (fun _ _ h => h))
       refine t_load Try.isAgg157 rfl rfl rfl ((D693.ssl.at_ i (by omega)) 0 _ rfl) ?_
       exact dz rfl hW
      · exact pz rfl rfl rfl rfl fun _ _ _ h => h
      ·
       intro D ρ w694 hcD hnD hdD hW
       have zhW := hW.size
       refine ⟨_, kf_fr [41, 48, 49], fun Lr => ?_⟩
       have D697 := (((D14.keep u19 (fun _ _ h => h)).keep u22 (fun i hi => show ¬ (i = bk16) by omega)).keep hW (fun _ _ h => h))
       have i698 : k < ((nth rows i).ss).length := (by omega)
       refine t_index (j := k) Try.underlying157 Try.sizeOf141 rfl rfl rfl rfl ((D697.rsl (nth rows i) (nth_mem (by omega))).addr (by omega)) rfl i698 ?_
       exact dz rfl hW
      · exact pzf Try.underlying141 rfl Try.sizeOf4 (0 + k * 5 + 4) rfl rfl rfl rfl rfl fun _ _ _ h => h
      ·
       intro D ρ w699 hcD hnD hdD hW
       have zhW := hW.size
       refine ⟨_, kf_fr [41, 51], fun Lr => ?_⟩
       have D702 := (((D14.keep u19 (fun _ _ h => h)).keep u22 (fun i hi => show ¬ (i = bk16) by omega)).keep hW (fun _ _ h => h))
       refine t_load Try.isAgg4 rfl rfl rfl (((D702.rsl (nth rows i) (nth_mem (by omega))).at_ k (by omega)) 4 _ rfl) ?_
       exact dz rfl hW
      · exact pz rfl rfl rfl rfl fun _ _ _ h => h
      · exact fun D ρ w _ _ _ hW => ⟨[(53, .bool ((nth ((nth rows i).ss) k).there))], ⟨fi 36 rfl rfl rfl, trivial⟩, fun Lr => t_move rfl rfl rfl (t_samehd (v := .bool true) (by first | exact congrArg Value.bool (decide_eq_true g54) | exact congrArg Value.bool g54 | simp [g54]) (dz rfl hW))⟩
      ·
       intro D ρ w703 hcD hnD hdD hW
       have zhW := hW.size
       refine ⟨_, kf_fr [1, 54], fun Lr => ?_⟩
       have B706 := (B26.keep hW (fun h => h))
       refine t_load Try.isAgg124 rfl rfl rfl (B706.get rfl) ?_
       exact dz rfl hW
      · exact pz rfl rfl rfl rfl fun _ _ _ h => h
      · exact pzf Try.underlying160 rfl Try.sizeOf158 (2) rfl rfl rfl rfl rfl fun _ _ _ h => h
      ·
       intro D ρ w707 hcD hnD hdD hW
       have zhW := hW.size
       refine ⟨_, kf_fr [54, 57], fun Lr => ?_⟩
       have B710 := ((((htb.keep u4 (show ¬ (T t) by first | omega | assumption)).keep u19 (fun h => h)).keep u22 (show ¬ (t = bk16) by first | omega | assumption)).keep hW (fun h => h))
       refine t_load Try.isAgg158 rfl rfl rfl (B710.get rfl) ?_
       exact dz rfl hW
      ·
       intro D ρ w711 hcD hnD hdD hW
       have zhW := hW.size
       refine ⟨_, kf_fr [3, 54], fun Lr => ?_⟩
       have B714 := (B28.keep hW (fun h => h))
       refine t_load Try.isAgg3 rfl rfl rfl (B714.get rfl) ?_
       exact dz rfl hW
      ·
       intro D ρ w715 hcD hnD hdD hW
       have zhW := hW.size
       refine ⟨_, kf_fr [54, 58, 59], fun Lr => ?_⟩
       have D718 := (((D14.keep u19 (fun _ _ h => h)).keep u22 (fun i hi => show ¬ (i = bk16) by omega)).keep hW (fun _ _ h => h))
       have i719 : j < rows.length := (by omega)
       refine t_index (j := j) Try.underlying158 Try.sizeOf157 rfl rfl rfl rfl (D718.ssl.addr (by omega)) rfl i719 ?_
       exact dz rfl hW
      ·
       intro D ρ w720 hcD hnD hdD hW
       have zhW := hW.size
       refine ⟨_, kf_fr [54, 60], fun Lr => ?_⟩
       have D723 := (((D14.keep u19 (fun _ _ h => h)).keep u22 (fun i hi => show ¬ (i = bk16) by omega)).keep hW (fun _ _ h => h))
       refine t_load Try.isAgg157 rfl rfl rfl ((D723.ssl.at_ j (by omega)) 0 _ rfl) ?_
       exact dz rfl hW
      · exact pz rfl rfl rfl rfl fun _ _ _ h => h
      ·
       intro D ρ w724 hcD hnD hdD hW
       have zhW := hW.size
       refine ⟨_, kf_fr [54, 61, 62], fun Lr => ?_⟩
       have D727 := (((D14.keep u19 (fun _ _ h => h)).keep u22 (fun i hi => show ¬ (i = bk16) by omega)).keep hW (fun _ _ h => h))
       have i728 : k < ((nth rows j).ss).length := (by omega)
       refine t_index (j := k) Try.underlying157 Try.sizeOf141 rfl rfl rfl rfl ((D727.rsl (nth rows j) (nth_mem (by omega))).addr (by omega)) rfl i728 ?_
       exact dz rfl hW
      · exact pzf Try.underlying141 rfl Try.sizeOf4 (0 + k * 5 + 4) rfl rfl rfl rfl rfl fun _ _ _ h => h
      ·
       intro D ρ w729 hcD hnD hdD hW
       have zhW := hW.size
       refine ⟨_, kf_fr [54, 64], fun Lr => ?_⟩
       have D732 := (((D14.keep u19 (fun _ _ h => h)).keep u22 (fun i hi => show ¬ (i = bk16) by omega)).keep hW (fun _ _ h => h))
       refine t_load Try.isAgg4 rfl rfl rfl (((D732.rsl (nth rows j) (nth_mem (by omega))).at_ k (by omega)) 4 _ rfl) ?_
       exact dz rfl hW
      · exact pz rfl rfl rfl rfl fun _ _ _ h => h
      · exact fun D ρ w _ _ _ hW => ⟨[(66, .bool ((nth ((nth rows j).ss) k).there))], ⟨fi 49 rfl rfl rfl, trivial⟩, fun Lr => t_move rfl rfl rfl (t_samehd (v := .bool false) (by first | exact congrArg Value.bool (decide_eq_false g67) | exact congrArg Value.bool g67 | simp [g67]) (dz rfl hW))⟩
      · exact pz rfl rfl rfl rfl fun _ _ _ h => h
      · exact pz rfl rfl rfl rfl fun _ _ _ h => h
      · exact pz rfl rfl rfl rfl fun _ _ _ h => h
      · exact pz rfl rfl rfl rfl fun _ _ _ h => h
      · exact pz rfl rfl rfl rfl fun _ _ _ h => h
      intro ρ w733 hW
      have u734 : Upd (fun _ => False) w21 w733 := hW
      have zu734 := u734.size
      refine QK.weak [(0, .func (.yield l) #[] #[]), (1, .pointer (some ⟨b3, 0, none⟩)), (2, .pointer (some ⟨b4, 0, none⟩)), (3, .pointer (some ⟨b5, 0, none⟩)), (10, .slice an ns.length cn), (11, .int .i64 (ns.length : Int)), (12, .int .i64 (k : Int)), (72, .bool false)] ⟨rfl, rfl, rfl, rfl, rfl, rfl, rfl, rfl, trivial⟩ (hK25 _ _ (c_cond_f rfl (c_skip (hK12 _ _ (c_region (t_ari rfl rfl rfl rfl rfl (by omega) (t_move rfl rfl rfl (t_nil' ?_))))))))
      exact hK2 (k + 1, pre) _ _ (by show ns.length - (k + 1) < ns.length - k; omega) ⟨rfl, rfl, rfl, rfl, rfl, rfl, rfl, trivial⟩ ⟨(((u4.next u19 (fun _ _ h => h.elim)).next u22 (fun i hi (h : i = bk16) => show T i by first | omega | assumption)).next u734 (fun _ _ h => h.elim)), (by omega), (by rw [filter_succ, if_neg (by simp [barB, g19, g67])]; simpa using hpre), (by show pre.length ≤ (k + 1); omega), (hJ _ _ _ none hJk (Ext.grownBy ((((Upd.refl (fun _ => False) _).next u19 (fun _ _ h => h.elim)).next u22 (fun i hi (h : i = bk16) => show False by first | omega | assumption)).next u734 (fun _ _ h => h.elim))) (fun r e => by cases e))⟩
    ·
     refine WC.weak [(0, .func (.yield l) #[] #[]), (1, .pointer (some ⟨b3, 0, none⟩)), (2, .pointer (some ⟨b4, 0, none⟩)), (3, .pointer (some ⟨b5, 0, none⟩)), (5, .int .i64 (k : Int)), (6, .pointer (some ⟨bk16, 0, none⟩)), (10, .slice an ns.length cn), (11, .int .i64 (ns.length : Int)), (12, .int .i64 (k : Int))] ⟨rfl, rfl, rfl, rfl, rfl, rfl, rfl, rfl, rfl, trivial⟩ (c_drawn followsS' 56 [some (17, some (.pointer (some ⟨bk16, 3, none⟩))), some (18, some (.bool ((nth ns k).single))), some (19, some (.bool false)), some (20, some (.pointer (some ⟨t, 0, none⟩))), some (21, some (.pointer (some ⟨t, 0, none⟩))), some (22, some (.pointer (some ⟨t, 0, none⟩))), some (23, some (.slice av vs.length cv)), some (24, some (.int .i64 (i : Int))), some (25, some (.pointer (some ⟨bv, ov + i * 5, none⟩))), some (26, some (.pointer (some ⟨bv, ov + i * 5 + 4, none⟩))), some (27, some (.int .i64 ((nth vs i).v.wid))), some (28, some (.pointer (some ⟨t, 0, none⟩))), some (29, some (.pointer (some ⟨t, 0, none⟩))), some (30, some (.pointer (some ⟨t, 0, none⟩))), some (31, some (.slice av vs.length cv)), some (32, some (.int .i64 (j : Int))), some (33, some (.pointer (some ⟨bv, ov + j * 5, none⟩))), some (34, some (.pointer (some ⟨bv, ov + j * 5 + 4, none⟩))), some (35, some (.int .i64 ((nth vs j).v.wid))), some (36, some (.int .i64 ((nth vs i).v.wid + ((nth vs j).v.wid)))), some (37, some (.pointer (some ⟨bk16, 2, none⟩))), some (38, some (.int .i64 ((nth ns k).wid))), some (39, some (.bool (decide ((nth ns k).wid < ((nth vs i).v.wid + ((nth vs j).v.wid)))))), some (40, some (.bool (decide ((nth ns k).wid < ((nth vs i).v.wid + ((nth vs j).v.wid)))))), some (41, some (.bool true)), some (42, some (.pointer (some ⟨t, 0, none⟩))), some (43, some (.pointer (some ⟨t, 0, none⟩))), some (44, some (.pointer (some ⟨t, 2, none⟩))), some (45, some (.slice ar rows.length cr)), some (46, some (.int .i64 (i : Int))), some (47, some (.pointer (some ⟨br, 0 + i * 1, none⟩))), some (48, some (.slice ((nth rows i).ao) (((nth rows i).ss).length) ((nth rows i).cap))), some (49, some (.int .i64 (k : Int))), some (50, some (.pointer (some ⟨(nth rows i).g, 0 + k * 5, none⟩))), some (51, some (.pointer (some ⟨(nth rows i).g, 0 + k * 5 + 4, none⟩))), some (52, some (.bool ((nth ((nth rows i).ss) k).there))), some (53, some (.bool ((nth ((nth rows i).ss) k).there))), some (54, some (.bool false)), some (55, some (undef)), some (56, some (undef)), some (57, some (undef)), some (58, some (undef)), some (59, some (undef)), some (60, some (undef)), some (61, some (undef)), some (62, some (undef)), some (63, some (undef)), some (64, some (undef)), some (65, some (undef)), some (66, some (.bool false)), some (67, some (.bool false)), some (68, some (undef)), some (69, some (undef)), some (70, some (undef)), some (71, some (undef)), some (72, some (.bool false))] [[],[0],[1],[2],[3,2],[4,2],[5,2],[2],[6,7,2],[8,2],[9,2],[2],[11,2],[12,2],[13,2],[2],[14,15,2],[16,2],[17,2],[10,18,2],[2],[20,2],[19,21,2],[2,22],[23,2],[24],[25,24],[26,24],[27,24],[24],[28,29,24],[30,24],[24],[31,32,24],[33,24],[34,24],[24,35],[36,24],[37],[38,37],[39,37],[40,37],[37],[41,42,37],[43,37],[37],[44,45,37],[46,37],[47,37],[37,48],[49,37],[50],[50],[51,52,50,50],[53,50],[50,54]] (fun _ _ w => Upd (fun _ => False) w21 w) rfl rfl rfl (by kernel_rfl) (by kernel_rfl) (Upd.drew _).to ⟨?_, ?_, ?_, ?_, ?_, ?_, ?_, ?_, ?_, ?_, ?_, ?_, ?_, ?_, ?_, ?_, ?_, ?_, ?_, ?_, ?_, ?_, ?_, ?_, ?_, ?_, ?_, ?_, ?_, ?_, ?_, ?_, ?_, ?_, ?_, ?_, ?_, ?_, ?_, ?_, ?_, ?_, ?_, ?_, ?_, ?_, ?_, ?_, ?_, ?_, ?_, ?_, ?_, ?_, ?_, ?_, trivial⟩ ?_)
     · exact pzf Try.underlying72 rfl Try.sizeOf4 (3) rfl rfl rfl rfl rfl fun _ _ _ h => h
     ·
      intro D ρ w742 hcD hnD hdD hW
      have zhW := hW.size
      refine ⟨_, kf_fr [17], fun Lr => ?_⟩
      have B745 := (B23.keep hW (fun h => h))
      refine t_load Try.isAgg4 rfl rfl rfl (B745.get rfl) ?_
      exact dz rfl hW
     · exact fun D ρ w _ _ _ hW => ⟨[(18, .bool ((nth ns k).single))], ⟨fi 1 rfl rfl rfl, trivial⟩, fun Lr => t_move rfl rfl rfl (t_samehd (v := .bool false) (by first | exact congrArg Value.bool (decide_eq_false g19) | exact congrArg Value.bool g19 | simp [g19]) (dz rfl hW))⟩
     ·
      intro D ρ w746 hcD hnD hdD hW
      have zhW := hW.size
      refine ⟨_, kf_fr [1, 19], fun Lr => ?_⟩
      have B749 := (B26.keep hW (fun h => h))
      refine t_load Try.isAgg124 rfl rfl rfl (B749.get rfl) ?_
      exact dz rfl hW
     · exact pz rfl rfl rfl rfl fun _ _ _ h => h
     · exact pzf Try.underlying160 rfl Try.sizeOf34 (0) rfl rfl rfl rfl rfl fun _ _ _ h => h
     ·
      intro D ρ w750 hcD hnD hdD hW
      have zhW := hW.size
      refine ⟨_, kf_fr [19, 22], fun Lr => ?_⟩
      have B753 := ((((htb.keep u4 (show ¬ (T t) by first | omega | assumption)).keep u19 (fun h => h)).keep u22 (show ¬ (t = bk16) by first | omega | assumption)).keep hW (fun h => h))
      refine t_load Try.isAgg34 rfl rfl rfl (B753.get rfl) ?_
      exact dz rfl hW
     ·
      intro D ρ w754 hcD hnD hdD hW
      have zhW := hW.size
      refine ⟨_, kf_fr [2, 19], fun Lr => ?_⟩
      have B757 := (B27.keep hW (fun h => h))
      refine t_load Try.isAgg3 rfl rfl rfl (B757.get rfl) ?_
      exact dz rfl hW
     ·
      intro D ρ w758 hcD hnD hdD hW
      have zhW := hW.size
      refine ⟨_, kf_fr [19, 23, 24], fun Lr => ?_⟩
      have D761 := (((D14.keep u19 (fun _ _ h => h)).keep u22 (fun i hi => show ¬ (i = bk16) by omega)).keep hW (fun _ _ h => h))
      have i762 : i < vs.length := (by omega)
      refine t_index (j := i) Try.underlying34 Try.sizeOf48 rfl rfl rfl rfl (D761.vsl.addr (by omega)) rfl i762 ?_
      exact dz rfl hW
     · exact pzf Try.underlying48 rfl Try.sizeOf3 (ov + i * 5 + 4) rfl rfl rfl rfl rfl fun _ _ _ h => h
     ·
      intro D ρ w763 hcD hnD hdD hW
      have zhW := hW.size
      refine ⟨_, kf_fr [19, 26], fun Lr => ?_⟩
      have D766 := (((D14.keep u19 (fun _ _ h => h)).keep u22 (fun i hi => show ¬ (i = bk16) by omega)).keep hW (fun _ _ h => h))
      refine t_load Try.isAgg3 rfl rfl rfl ((D766.vsl.at_ i (by omega)) 4 _ rfl) ?_
      exact dz rfl hW
     ·
      intro D ρ w767 hcD hnD hdD hW
      have zhW := hW.size
      refine ⟨_, kf_fr [1, 19], fun Lr => ?_⟩
      have B770 := (B26.keep hW (fun h => h))
      refine t_load Try.isAgg124 rfl rfl rfl (B770.get rfl) ?_
      exact dz rfl hW
     · exact pz rfl rfl rfl rfl fun _ _ _ h => h
     · exact pzf Try.underlying160 rfl Try.sizeOf34 (0) rfl rfl rfl rfl rfl fun _ _ _ h => h
     ·
      intro D ρ w771 hcD hnD hdD hW
      have zhW := hW.size
      refine ⟨_, kf_fr [19, 30], fun Lr => ?_⟩
      have B774 := ((((htb.keep u4 (show ¬ (T t) by first | omega | assumption)).keep u19 (fun h => h)).keep u22 (show ¬ (t = bk16) by first | omega | assumption)).keep hW (fun h => h))
      refine t_load Try.isAgg34 rfl rfl rfl (B774.get rfl) ?_
      exact dz rfl hW
     ·
      intro D ρ w775 hcD hnD hdD hW
      have zhW := hW.size
      refine ⟨_, kf_fr [3, 19], fun Lr => ?_⟩
      have B778 := (B28.keep hW (fun h => h))
      refine t_load Try.isAgg3 rfl rfl rfl (B778.get rfl) ?_
      exact dz rfl hW
     ·
      intro D ρ w779 hcD hnD hdD hW
      have zhW := hW.size
      refine ⟨_, kf_fr [19, 31, 32], fun Lr => ?_⟩
      have D782 := (((D14.keep u19 (fun _ _ h => h)).keep u22 (fun i hi => show ¬ (i = bk16) by omega)).keep hW (fun _ _ h => h))
      have i783 : j < vs.length := (by omega)
      refine t_index (j := j) Try.underlying34 Try.sizeOf48 rfl rfl rfl rfl (D782.vsl.addr (by omega)) rfl i783 ?_
      exact dz rfl hW
     · exact pzf Try.underlying48 rfl Try.sizeOf3 (ov + j * 5 + 4) rfl rfl rfl rfl rfl fun _ _ _ h => h
     ·
      intro D ρ w784 hcD hnD hdD hW
      have zhW := hW.size
      refine ⟨_, kf_fr [19, 34], fun Lr => ?_⟩
      have D787 := (((D14.keep u19 (fun _ _ h => h)).keep u22 (fun i hi => show ¬ (i = bk16) by omega)).keep hW (fun _ _ h => h))
      refine t_load Try.isAgg3 rfl rfl rfl ((D787.vsl.at_ j (by omega)) 4 _ rfl) ?_
      exact dz rfl hW
     ·
      intro D ρ w788 hcD hnD hdD hW
      have zhW := hW.size
      refine ⟨_, kf_fr [19, 27, 35], fun Lr => ?_⟩
      refine t_ari rfl rfl rfl rfl rfl (by omega) ?_
      exact dz rfl hW
     · exact pzf Try.underlying72 rfl Try.sizeOf3 (2) rfl rfl rfl rfl rfl fun _ _ _ h => h
     ·
      intro D ρ w791 hcD hnD hdD hW
      have zhW := hW.size
      refine ⟨_, kf_fr [19, 37], fun Lr => ?_⟩
      have B794 := (B23.keep hW (fun h => h))
      refine t_load Try.isAgg3 rfl rfl rfl (B794.get rfl) ?_
      exact dz rfl hW
     · exact pz rfl rfl rfl rfl fun _ _ _ h => h
     · exact pz rfl rfl rfl rfl fun _ _ _ h => h
     · exact fun D ρ w _ _ _ hW => ⟨[(40, .bool (decide ((nth ns k).wid < ((nth vs i).v.wid + ((nth vs j).v.wid)))))], ⟨fi 23 rfl rfl rfl, trivial⟩, fun Lr => t_move rfl rfl rfl (t_samehd (v := .bool true) (by first | exact congrArg Value.bool (decide_eq_true g41) | exact congrArg Value.bool g41 | simp [g41]) (dz rfl hW))⟩
     ·
      intro D ρ w795 hcD hnD hdD hW
      have zhW := hW.size
      refine ⟨_, kf_fr [1, 41], fun Lr => ?_⟩
      have B798 := (B26.keep hW (fun h => h))
      refine t_load Try.isAgg124 rfl rfl rfl (B798.get rfl) ?_
      exact dz rfl hW
     · exact pz rfl rfl rfl rfl fun _ _ _ h => h
     · exact pzf Try.underlying160 rfl Try.sizeOf158 (2) rfl rfl rfl rfl rfl fun _ _ _ h => h
     ·
      intro D ρ w799 hcD hnD hdD hW
      have zhW := hW.size
      refine ⟨_, kf_fr [41, 44], fun Lr => ?_⟩
      have B802 := ((((htb.keep u4 (show ¬ (T t) by first | omega | assumption)).keep u19 (fun h => h)).keep u22 (show ¬ (t = bk16) by first | omega | assumption)).keep hW (fun h => h))
      refine t_load Try.isAgg158 rfl rfl rfl (B802.get rfl) ?_
      exact dz rfl hW
     ·
      intro D ρ w803 hcD hnD hdD hW
      have zhW := hW.size
      refine ⟨_, kf_fr [2, 41], fun Lr => ?_⟩
      have B806 := (B27.keep hW (fun h => h))
      refine t_load Try.isAgg3 rfl rfl rfl (B806.get rfl) ?_
      exact dz rfl hW
     ·
      intro D ρ w807 hcD hnD hdD hW
      have zhW := hW.size
      refine ⟨_, kf_fr [41, 45, 46], fun Lr => ?_⟩
      have D810 := (((D14.keep u19 (fun _ _ h => h)).keep u22 (fun i hi => show ¬ (i = bk16) by omega)).keep hW (fun _ _ h => h))
      have i811 : i < rows.length := (by omega)
      refine t_index (j := i) Try.underlying158 Try.sizeOf157 rfl rfl rfl rfl (D810.ssl.addr (by omega)) rfl i811 ?_
      exact dz rfl hW
     ·
      intro D ρ w812 hcD hnD hdD hW
      have zhW := hW.size
      refine ⟨_, kf_fr [41, 47], fun Lr => ?_⟩
      have D815 := (((D14.keep u19 (fun _ _ h => h)).keep u22 (fun i hi => show ¬ (i = bk16) by omega)).keep hW (fun _ _ h => h))
      refine t_load Try.isAgg157 rfl rfl rfl ((D815.ssl.at_ i (by omega)) 0 _ rfl) ?_
      exact dz rfl hW
     · exact pz rfl rfl rfl rfl fun _ _ _ h => h
     ·
      intro D ρ w816 hcD hnD hdD hW
      have zhW := hW.size
      refine ⟨_, kf_fr [41, 48, 49], fun Lr => ?_⟩
      have D819 := (((D14.keep u19 (fun _ _ h => h)).keep u22 (fun i hi => show ¬ (i = bk16) by omega)).keep hW (fun _ _ h => h))
      have i820 : k < ((nth rows i).ss).length := (by omega)
      refine t_index (j := k) Try.underlying157 Try.sizeOf141 rfl rfl rfl rfl ((D819.rsl (nth rows i) (nth_mem (by omega))).addr (by omega)) rfl i820 ?_
      exact dz rfl hW
     · exact pzf Try.underlying141 rfl Try.sizeOf4 (0 + k * 5 + 4) rfl rfl rfl rfl rfl fun _ _ _ h => h
     ·
      intro D ρ w821 hcD hnD hdD hW
      have zhW := hW.size
      refine ⟨_, kf_fr [41, 51], fun Lr => ?_⟩
      have D824 := (((D14.keep u19 (fun _ _ h => h)).keep u22 (fun i hi => show ¬ (i = bk16) by omega)).keep hW (fun _ _ h => h))
      refine t_load Try.isAgg4 rfl rfl rfl (((D824.rsl (nth rows i) (nth_mem (by omega))).at_ k (by omega)) 4 _ rfl) ?_
      exact dz rfl hW
     · exact pz rfl rfl rfl rfl fun _ _ _ h => h
     · exact fun D ρ w _ _ _ hW => ⟨[(53, .bool ((nth ((nth rows i).ss) k).there))], ⟨fi 36 rfl rfl rfl, trivial⟩, fun Lr => t_move rfl rfl rfl (t_samehd (v := .bool false) (by first | exact congrArg Value.bool (decide_eq_false g54) | exact congrArg Value.bool g54 | simp [g54]) (dz rfl hW))⟩
     · exact pz rfl rfl rfl rfl fun _ _ _ h => h
     · exact pz rfl rfl rfl rfl fun _ _ _ h => h
     · exact pz rfl rfl rfl rfl fun _ _ _ h => h
     · exact pz rfl rfl rfl rfl fun _ _ _ h => h
     · exact pz rfl rfl rfl rfl fun _ _ _ h => h
     · exact pz rfl rfl rfl rfl fun _ _ _ h => h
     · exact pz rfl rfl rfl rfl fun _ _ _ h => h
     · exact pz rfl rfl rfl rfl fun _ _ _ h => h
     · exact pz rfl rfl rfl rfl fun _ _ _ h => h
     · exact pz rfl rfl rfl rfl fun _ _ _ h => h
     · exact pz rfl rfl rfl rfl fun _ _ _ h => h
     · exact pz rfl rfl rfl rfl fun _ _ _ h => h
     · exact pz rfl rfl rfl rfl fun _ _ _ h => h
     · exact pz rfl rfl rfl rfl fun _ _ _ h => h
     · exact pz rfl rfl rfl rfl fun _ _ _ h => h
     · exact pz rfl rfl rfl rfl fun _ _ _ h => h
     · exact pz rfl rfl rfl rfl fun _ _ _ h => h
     · exact pz rfl rfl rfl rfl fun _ _ _ h => h
     intro ρ w825 hW
     have u826 : Upd (fun _ => False) w21 w825 := hW
     have zu826 := u826.size
     refine QK.weak [(0, .func (.yield l) #[] #[]), (1, .pointer (some ⟨b3, 0, none⟩)), (2, .pointer (some ⟨b4, 0, none⟩)), (3, .pointer (some ⟨b5, 0, none⟩)), (10, .slice an ns.length cn), (11, .int .i64 (ns.length : Int)), (12, .int .i64 (k : Int)), (72, .bool false)] ⟨rfl, rfl, rfl, rfl, rfl, rfl, rfl, rfl, trivial⟩ (hK25 _ _ (c_cond_f rfl (c_skip (hK12 _ _ (c_region (t_ari rfl rfl rfl rfl rfl (by omega) (t_move rfl rfl rfl (t_nil' ?_))))))))
     exact hK2 (k + 1, pre) _ _ (by show ns.length - (k + 1) < ns.length - k; omega) ⟨rfl, rfl, rfl, rfl, rfl, rfl, rfl, trivial⟩ ⟨(((u4.next u19 (fun _ _ h => h.elim)).next u22 (fun i hi (h : i = bk16) => show T i by first | omega | assumption)).next u826 (fun _ _ h => h.elim)), (by omega), (by rw [filter_succ, if_neg (by simp [barB, g19, g54])]; simpa using hpre), (by show pre.length ≤ (k + 1); omega), (hJ _ _ _ none hJk (Ext.grownBy ((((Upd.refl (fun _ => False) _).next u19 (fun _ _ h => h.elim)).next u22 (fun i hi (h : i = bk16) => show False by first | omega | assumption)).next u826 (fun _ _ h => h.elim))) (fun r e => by cases e))⟩
   ·
    refine WC.weak [(0, .func (.yield l) #[] #[]), (1, .pointer (some ⟨b3, 0, none⟩)), (2, .pointer (some ⟨b4, 0, none⟩)), (3, .pointer (some ⟨b5, 0, none⟩)), (5, .int .i64 (k : Int)), (6, .pointer (some ⟨bk16, 0, none⟩)), (10, .slice an ns.length cn), (11, .int .i64 (ns.length : Int)), (12, .int .i64 (k : Int))] ⟨rfl, rfl, rfl, rfl, rfl, rfl, rfl, rfl, rfl, trivial⟩ (c_drawn followsS' 56 [some (17, some (.pointer (some ⟨bk16, 3, none⟩))), some (18, some (.bool ((nth ns k).single))), some (19, some (.bool false)), some (20, some (.pointer (some ⟨t, 0, none⟩))), some (21, some (.pointer (some ⟨t, 0, none⟩))), some (22, some (.pointer (some ⟨t, 0, none⟩))), some (23, some (.slice av vs.length cv)), some (24, some (.int .i64 (i : Int))), some (25, some (.pointer (some ⟨bv, ov + i * 5, none⟩))), some (26, some (.pointer (some ⟨bv, ov + i * 5 + 4, none⟩))), some (27, some (.int .i64 ((nth vs i).v.wid))), some (28, some (.pointer (some ⟨t, 0, none⟩))), some (29, some (.pointer (some ⟨t, 0, none⟩))), some (30, some (.pointer (some ⟨t, 0, none⟩))), some (31, some (.slice av vs.length cv)), some (32, some (.int .i64 (j : Int))), some (33, some (.pointer (some ⟨bv, ov + j * 5, none⟩))), some (34, some (.pointer (some ⟨bv, ov + j * 5 + 4, none⟩))), some (35, some (.int .i64 ((nth vs j).v.wid))), some (36, some (.int .i64 ((nth vs i).v.wid + ((nth vs j).v.wid)))), some (37, some (.pointer (some ⟨bk16, 2, none⟩))), some (38, some (.int .i64 ((nth ns k).wid))), some (39, some (.bool (decide ((nth ns k).wid < ((nth vs i).v.wid + ((nth vs j).v.wid)))))), some (40, some (.bool (decide ((nth ns k).wid < ((nth vs i).v.wid + ((nth vs j).v.wid)))))), some (41, some (.bool false)), some (42, some (undef)), some (43, some (undef)), some (44, some (undef)), some (45, some (undef)), some (46, some (undef)), some (47, some (undef)), some (48, some (undef)), some (49, some (undef)), some (50, some (undef)), some (51, some (undef)), some (52, some (undef)), some (53, some (.bool false)), some (54, some (.bool false)), some (55, some (undef)), some (56, some (undef)), some (57, some (undef)), some (58, some (undef)), some (59, some (undef)), some (60, some (undef)), some (61, some (undef)), some (62, some (undef)), some (63, some (undef)), some (64, some (undef)), some (65, some (undef)), some (66, some (.bool false)), some (67, some (.bool false)), some (68, some (undef)), some (69, some (undef)), some (70, some (undef)), some (71, some (undef)), some (72, some (.bool false))] [[],[0],[1],[2],[3,2],[4,2],[5,2],[2],[6,7,2],[8,2],[9,2],[2],[11,2],[12,2],[13,2],[2],[14,15,2],[16,2],[17,2],[10,18,2],[2],[20,2],[19,21,2],[2,22],[23,2],[24],[25,24],[26,24],[27,24],[24],[28,29,24],[30,24],[24],[31,32,24],[33,24],[34,24],[24,35],[36,24],[37],[38,37],[39,37],[40,37],[37],[41,42,37],[43,37],[37],[44,45,37],[46,37],[47,37],[37,48],[49,37],[50],[50],[51,52,50,50],[53,50],[50,54]] (fun _ _ w => Upd (fun _ => False) w21 w) rfl rfl rfl (by kernel_rfl) (by kernel_rfl) (Upd.drew _).to ⟨?_, ?_, ?_, ?_, ?_, ?_, ?_, ?_, ?_, ?_, ?_, ?_, ?_, ?_, ?_, ?_, ?_, ?_, ?_, ?_, ?_, ?_, ?_, ?_, ?_, ?_, ?_, ?_, ?_, ?_, ?_, ?_, ?_, ?_, ?_, ?_, ?_, ?_, ?_, ?_, ?_, ?_, ?_, ?_, ?_, ?_, ?_, ?_, ?_, ?_, ?_, ?_, ?_, ?_, ?_, ?_, trivial⟩ ?_)
    · exact pzf Try.underlying72 rfl Try.sizeOf4 (3) rfl rfl rfl rfl rfl fun _ _ _ h => h
    ·
     intro D ρ w832 hcD hnD hdD hW
     have zhW := hW.size
     refine ⟨_, kf_fr [17], fun Lr => ?_⟩
     have B835 := (B23.keep hW (fun h => h))
     refine t_load Try.isAgg4 rfl rfl rfl (B835.get rfl) ?_
     exact dz rfl hW
    · exact fun D ρ w _ _ _ hW => ⟨[(18, .bool ((nth ns k).single))], ⟨fi 1 rfl rfl rfl, trivial⟩, fun Lr => t_move rfl rfl rfl (t_samehd (v := .bool false) (by first | exact congrArg Value.bool (decide_eq_false g19) | exact congrArg Value.bool g19 | simp [g19]) (dz rfl hW))⟩
    ·
     intro D ρ w836 hcD hnD hdD hW
     have zhW := hW.size
     refine ⟨_, kf_fr [1, 19], fun Lr => ?_⟩
     have B839 := (B26.keep hW (fun h => h))
     refine t_load Try.isAgg124 rfl rfl rfl (B839.get rfl) ?_
     exact dz rfl hW
    · exact pz rfl rfl rfl rfl fun _ _ _ h => h
    · exact pzf Try.underlying160 rfl Try.sizeOf34 (0) rfl rfl rfl rfl rfl fun _ _ _ h => h
    ·
     intro D ρ w840 hcD hnD hdD hW
     have zhW := hW.size
     refine ⟨_, kf_fr [19, 22], fun Lr => ?_⟩
     have B843 := ((((htb.keep u4 (show ¬ (T t) by first | omega | assumption)).keep u19 (fun h => h)).keep u22 (show ¬ (t = bk16) by first | omega | assumption)).keep hW (fun h => h))
     refine t_load Try.isAgg34 rfl rfl rfl (B843.get rfl) ?_
     exact dz rfl hW
    ·
     intro D ρ w844 hcD hnD hdD hW
     have zhW := hW.size
     refine ⟨_, kf_fr [2, 19], fun Lr => ?_⟩
     have B847 := (B27.keep hW (fun h => h))
     refine t_load Try.isAgg3 rfl rfl rfl (B847.get rfl) ?_
     exact dz rfl hW
    ·
     intro D ρ w848 hcD hnD hdD hW
     have zhW := hW.size
     refine ⟨_, kf_fr [19, 23, 24], fun Lr => ?_⟩
     have D851 := (((D14.keep u19 (fun _ _ h => h)).keep u22 (fun i hi => show ¬ (i = bk16) by omega)).keep hW (fun _ _ h => h))
     have i852 : i < vs.length := (by omega)
     refine t_index (j := i) Try.underlying34 Try.sizeOf48 rfl rfl rfl rfl (D851.vsl.addr (by omega)) rfl i852 ?_
     exact dz rfl hW
    · exact pzf Try.underlying48 rfl Try.sizeOf3 (ov + i * 5 + 4) rfl rfl rfl rfl rfl fun _ _ _ h => h
    ·
     intro D ρ w853 hcD hnD hdD hW
     have zhW := hW.size
     refine ⟨_, kf_fr [19, 26], fun Lr => ?_⟩
     have D856 := (((D14.keep u19 (fun _ _ h => h)).keep u22 (fun i hi => show ¬ (i = bk16) by omega)).keep hW (fun _ _ h => h))
     refine t_load Try.isAgg3 rfl rfl rfl ((D856.vsl.at_ i (by omega)) 4 _ rfl) ?_
     exact dz rfl hW
    ·
     intro D ρ w857 hcD hnD hdD hW
     have zhW := hW.size
     refine ⟨_, kf_fr [1, 19], fun Lr => ?_⟩
     have B860 := (B26.keep hW (fun h => h))
     refine t_load Try.isAgg124 rfl rfl rfl (B860.get rfl) ?_
     exact dz rfl hW
    · exact pz rfl rfl rfl rfl fun _ _ _ h => h
    · exact pzf Try.underlying160 rfl Try.sizeOf34 (0) rfl rfl rfl rfl rfl fun _ _ _ h => h
    ·
     intro D ρ w861 hcD hnD hdD hW
     have zhW := hW.size
     refine ⟨_, kf_fr [19, 30], fun Lr => ?_⟩
     have B864 := ((((htb.keep u4 (show ¬ (T t) by first | omega | assumption)).keep u19 (fun h => h)).keep u22 (show ¬ (t = bk16) by first | omega | assumption)).keep hW (fun h => h))
     refine t_load Try.isAgg34 rfl rfl rfl (B864.get rfl) ?_
     exact dz rfl hW
    ·
     intro D ρ w865 hcD hnD hdD hW
     have zhW := hW.size
     refine ⟨_, kf_fr [3, 19], fun Lr => ?_⟩
     have B868 := (B28.keep hW (fun h => h))
     refine t_load Try.isAgg3 rfl rfl rfl (B868.get rfl) ?_
     exact dz rfl hW
    ·
     intro D ρ w869 hcD hnD hdD hW
     have zhW := hW.size
     refine ⟨_, kf_fr [19, 31, 32], fun Lr => ?_⟩
     have D872 := (((D14.keep u19 (fun _ _ h => h)).keep u22 (fun i hi => show ¬ (i = bk16) by omega)).keep hW (fun _ _ h => h))
     have i873 : j < vs.length := (by omega)
     refine t_index (j := j) Try.underlying34 Try.sizeOf48 rfl rfl rfl rfl (D872.vsl.addr (by omega)) rfl i873 ?_
     exact dz rfl hW
    · exact pzf Try.underlying48 rfl Try.sizeOf3 (ov + j * 5 + 4) rfl rfl rfl rfl rfl fun _ _ _ h => h
    ·
     intro D ρ w874 hcD hnD hdD hW
     have zhW := hW.size
     refine ⟨_, kf_fr [19, 34], fun Lr => ?_⟩
     have D877 := (((D14.keep u19 (fun _ _ h => h)).keep u22 (fun i hi => show ¬ (i = bk16) by omega)).keep hW (fun _ _ h => h))
     refine t_load Try.isAgg3 rfl rfl rfl ((D877.vsl.at_ j (by omega)) 4 _ rfl) ?_
     exact dz rfl hW
    ·
     intro D ρ w878 hcD hnD hdD hW
     have zhW := hW.size
     refine ⟨_, kf_fr [19, 27, 35], fun Lr => ?_⟩
     refine t_ari rfl rfl rfl rfl rfl (by omega) ?_
     exact dz rfl hW
    · exact pzf Try.underlying72 rfl Try.sizeOf3 (2) rfl rfl rfl rfl rfl fun _ _ _ h => h
    ·
     intro D ρ w881 hcD hnD hdD hW
     have zhW := hW.size
     refine ⟨_, kf_fr [19, 37], fun Lr => ?_⟩
     have B884 := (B23.keep hW (fun h => h))
     refine t_load Try.isAgg3 rfl rfl rfl (B884.get rfl) ?_
     exact dz rfl hW
    · exact pz rfl rfl rfl rfl fun _ _ _ h => h
    · exact pz rfl rfl rfl rfl fun _ _ _ h => h
    · exact fun D ρ w _ _ _ hW => ⟨[(40, .bool (decide ((nth ns k).wid < ((nth vs i).v.wid + ((nth vs j).v.wid)))))], ⟨fi 23 rfl rfl rfl, trivial⟩, fun Lr => t_move rfl rfl rfl (t_samehd (v := .bool false) (by first | exact congrArg Value.bool (decide_eq_false g41) | exact congrArg Value.bool g41 | simp [g41]) (dz rfl hW))⟩
    · exact pz rfl rfl rfl rfl fun _ _ _ h => h
    · exact pz rfl rfl rfl rfl fun _ _ _ h => h
    · exact pz rfl rfl rfl rfl fun _ _ _ h => h
    · exact pz rfl rfl rfl rfl fun _ _ _ h => h
    · exact pz rfl rfl rfl rfl fun _ _ _ h => h
    · exact pz rfl rfl rfl rfl fun _ _ _ h => h
    · exact pz rfl rfl rfl rfl fun _ _ _ h => h
    · exact pz rfl rfl rfl rfl fun _ _ _ h => h
    · exact pz rfl rfl rfl rfl fun _ _ _ h => h
    · exact pz rfl rfl rfl rfl fun _ _ _ h => h
    · exact pz rfl rfl rfl rfl fun _ _ _ h => h
    · exact pz rfl rfl rfl rfl fun _ _ _ h => h
    · exact pz rfl rfl rfl rfl fun _ _ _ h => h
    · exact pz rfl rfl rfl rfl fun _ _ _ h => h
    · exact pz rfl rfl rfl rfl fun _ _ _ h => h
    · exact pz rfl rfl rfl rfl fun _ _ _ h => h
    · exact pz rfl rfl rfl rfl fun _ _ _ h => h
    · exact pz rfl rfl rfl rfl fun _ _ _ h => h
    · exact pz rfl rfl rfl rfl fun _ _ _ h => h
    · exact pz rfl rfl rfl rfl fun _ _ _ h => h
    · exact pz rfl rfl rfl rfl fun _ _ _ h => h
    · exact pz rfl rfl rfl rfl fun _ _ _ h => h
    · exact pz rfl rfl rfl rfl fun _ _ _ h => h
    · exact pz rfl rfl rfl rfl fun _ _ _ h => h
    · exact pz rfl rfl rfl rfl fun _ _ _ h => h
    · exact pz rfl rfl rfl rfl fun _ _ _ h => h
    · exact pz rfl rfl rfl rfl fun _ _ _ h => h
    · exact pz rfl rfl rfl rfl fun _ _ _ h => h
    · exact pz rfl rfl rfl rfl fun _ _ _ h => h
    · exact pz rfl rfl rfl rfl fun _ _ _ h => h
    · exact pz rfl rfl rfl rfl fun _ _ _ h => h
    intro ρ w885 hW
    have u886 : Upd (fun _ => False) w21 w885 := hW
    have zu886 := u886.size
    refine QK.weak [(0, .func (.yield l) #[] #[]), (1, .pointer (some ⟨b3, 0, none⟩)), (2, .pointer (some ⟨b4, 0, none⟩)), (3, .pointer (some ⟨b5, 0, none⟩)), (10, .slice an ns.length cn), (11, .int .i64 (ns.length : Int)), (12, .int .i64 (k : Int)), (72, .bool false)] ⟨rfl, rfl, rfl, rfl, rfl, rfl, rfl, rfl, trivial⟩ (hK25 _ _ (c_cond_f rfl (c_skip (hK12 _ _ (c_region (t_ari rfl rfl rfl rfl rfl (by omega) (t_move rfl rfl rfl (t_nil' ?_))))))))
    exact hK2 (k + 1, pre) _ _ (by show ns.length - (k + 1) < ns.length - k; omega) ⟨rfl, rfl, rfl, rfl, rfl, rfl, rfl, trivial⟩ ⟨(((u4.next u19 (fun _ _ h => h.elim)).next u22 (fun i hi (h : i = bk16) => show T i by first | omega | assumption)).next u886 (fun _ _ h => h.elim)), (by omega), (by rw [filter_succ, if_neg (by simp [barB, g19, g41])]; simpa using hpre), (by show pre.length ≤ (k + 1); omega), (hJ _ _ _ none hJk (Ext.grownBy ((((Upd.refl (fun _ => False) _).next u19 (fun _ _ h => h.elim)).next u22 (fun i hi (h : i = bk16) => show False by first | omega | assumption)).next u886 (fun _ _ h => h.elim))) (fun r e => by cases e))⟩
 ·
  refine c_exit (f_ret0 Try.results108 ?_)
  exact ⟨_, rfl, .inl ⟨pre, (by rw [hpre, show k = ns.length from by omega]), hJk⟩⟩

end Go.Proofs.Ytmicjleiheoieaa
