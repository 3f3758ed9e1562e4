/-
  Spare. Conditions: none.
-/
import Derived.Test.YtagmodjadmecdaaGreatHA15
namespace Go.Proofs.YtagmodjadmecdaaGreat
open Go Go.RowKit Tryz

section
variable {P : Program} {ops : Array Oper} {Q : Exit → Act → World → Prop} {N : Nat} {ds : List Deferred} {rest : List Oper} {L : Slots} {w : World} {rd : Option Nat} {d : Nat} {ty : TypeId} {pos : String} {aft : Array Edge} {g : Option (Nat × Bool)}
theorem t_appZN {t tn e : TypeId} {z : Value} {bytes k : Nat} (m : Nat) {s x : Operand} {mv : Int}
    (hu : P.underlying t = some (.slice e)) (hun : P.underlying tn = some (.int .i64)) (hi : (P.info? e).map (fun i => (i.zero, i.size, i.bytes)) = some (some z, k, bytes)) (hz : z.cells.size = k) (hk0 : 0 < k)
    (hg : grd ops L g = true) (hN : Nat.blt d N = true) (hs : ev L s = some (.slice none 0 0)) (hx : ev L x = some (.int .i64 mv)) (hm : mv = (m : Int)) (hm0 : 0 < m) (hsm : m ≤ 1000000) (hby : bytes ≤ 1000)
    (h : ∀ cap' w' zs, m ≤ cap' → cap' ≤ maxLen → List.length zs = cap' * k → Blk w' w.heap.size e zs → Ext w w' → WL rd P ops Q N ds rest ((d, .slice (some ⟨w.heap.size, 0, none⟩) m cap') :: L) w') :
    WL rd P ops Q N ds (⟨some d, .call ⟨.builtin .append, #[s, x], #[t, tn]⟩, ty, pos, aft, g⟩ :: rest) L w := by
  subst hm
  obtain ⟨i0, hi0, hi1, hi2, hi3⟩ := info_parts' hi
  have hold : (Builtin.firstCells i0.size 0 (.slice none 0 0)).run P w.drew = .ok (([] : List Value).toArray) w.drew := run_firstCells_none _ _ _ _ _
  have hb1 : m * bytes ≤ 1000000 * 1000 := Nat.mul_le_mul hsm hby
  have hr := Lib.run_append_grow_zeros (P := P) w t tn ty e i0 z .i64 .i64 hu hun hi0 hi1 none 0 0 [] hold m hm0 (by omega) (by omega) (by omega) (by rw [hi3]; omega) (by rw [hi3]; exact growslice_fits (by omega) (by rw [Nat.zero_add]; omega))
  rw [Nat.zero_add] at hr
  have hge := grownCap_ge w m 0 e
  have hle := grownCap_le_maxLen w m 0 e (by unfold maxLen; omega)
  generalize grownCap w m 0 e = G at hr hge hle
  have hzl : ∀ q, (Builtin.zeroCells z.cells q).size = q * k := fun q => by simp [Builtin.zeroCells, hz]
  have hB : Blk (w.drew.alloc (.cells (([] : List Value).toArray ++ Builtin.zeroCells z.cells m ++ Builtin.zeroCells z.cells (G - m)) e)) w.heap.size e ((Builtin.zeroCells z.cells m).toList ++ (Builtin.zeroCells z.cells (G - m)).toList) := by
    have := Blk.new w.drew e ((Builtin.zeroCells z.cells m).toList ++ (Builtin.zeroCells z.cells (G - m)).toList)
    have e2 : ((Builtin.zeroCells z.cells m).toList ++ (Builtin.zeroCells z.cells (G - m)).toList).toArray = ([] : List Value).toArray ++ Builtin.zeroCells z.cells m ++ Builtin.zeroCells z.cells (G - m) := by
      apply Array.toList_inj.1; simp
    rw [e2] at this
    exact this
  refine WL.value hg rfl hN (fun a hk => ?_) (h G _ _ hge hle ?_ hB ((Upd.drew w).trans (Upd.alloc _ _)))
  · simp only [execOp, resolve, invoke, builtin]
    simp [hk.ev hs, hk.ev hx, hr]
  · simp only [List.length_append, Array.length_toList, hzl]
    rw [← Nat.add_mul]
    congr 1; omega
end
structure HMS where
  xs : List HM
  ao : Option Addr
  g : Nat
  o : Nat
  cp : Nat
instance : Inhabited HMS := ⟨⟨default, default, default, default, default⟩⟩
def encHMS (h : HMS) : List Value := [.slice h.ao h.xs.length h.cp]
def spG (r : Rul) (xs : List Leg) (ms : List Mb) : Nat → List Int
  | 0 => []
  | i + 1 => spG r xs ms i ++ if sfP r xs (ms.take i ++ ms.drop (i + 1)) = true then [(i : Int)] else []
def SpareR (r : Rul) (ss : List Slr) (xs : List Leg) (l : List Int) (e : Int) : Prop :=
  (openE r ss xs ≠ 0 ∧ e = openE r ss xs ∧ l = []) ∨ (openE r ss xs = 0 ∧ sfP r xs (ss.map boardP) = false ∧ l = [] ∧ e = 7) ∨
  (openE r ss xs = 0 ∧ sfP r xs (ss.map boardP) = true ∧ e = 0 ∧ l = spG r xs (ss.map boardP) ss.length)
theorem RowM.upd {F S : Nat → Prop} {pb : Nat} {w w' : World} {am : Option Addr} {mb cm : Nat} {ms : List HM} (h : RowM F pb w am mb cm ms) (u : Upd S w w') (h0 : pb ≤ mb → ¬ S mb) (h1 : ∀ i, S i → pb ≤ i) (h2 : ∀ m ∈ ms, pb ≤ m.gt → ¬ S m.gt) : RowM F pb w' am mb cm ms :=
  ⟨h.acc.keep u h0, fun m hm => (h.mem m hm).upd u (fun hp q => by have := (h.mem m hm).hb hp; have := h1 _ q; omega) (h2 m hm)⟩
theorem own72 : Own Tryz.prog 72 := ⟨Tryz.f72, func72, by kernel_rfl, by kernel_rfl⟩
theorem own99 : Own Tryz.prog 99 := ⟨Tryz.f99, func99, by kernel_rfl, by kernel_rfl⟩
theorem own38 : Own Tryz.prog 38 := ⟨Tryz.f38, func38, by kernel_rfl, by kernel_rfl⟩

theorem grow_c (n : Nat) (w0 : World) (hn : n ≤ 1000) (hpos : 0 < w0.heap.size) :
    CallsV Tryz.prog 99 [.slice none 0 0, .int .i64 (n : Int)] w0 (fun v w' => (∃ ao g cp, v = .slice ao 0 cp ∧ Acc encHM 5 131 w0.heap.size w' ao g cp []) ∧ Ext w0 w') := by
 have E0 := Upd.refl (fun _ => False) w0
 refine f_enter (N := 27) func99 rfl rfl rfl (c_seq fun K1 hK1 => (c_region (t_assign rfl rfl rfl (t_nil' (hK1 _ _ (c_seq fun K2 hK2 => (c_seq fun K3 hK3 => (c_region (t_move rfl rfl rfl (t_cmp rfl rfl rfl rfl rfl (t_nil' (hK3 _ _ (c_condp rfl (fun g6 => ?_) (fun g6 => ?_))))))))))))))
 ·
  exact absurd g6 (by omega)
 refine c_skip (hK2 _ _ (c_seq fun K4 hK4 => (c_seq fun K5 hK5 => (c_region (t_move rfl rfl rfl (t_move rfl rfl rfl (t_cap underlying142 rfl rfl rfl rfl (t_move rfl rfl rfl (t_len underlying142 rfl rfl rfl rfl (t_ari rfl rfl rfl rfl rfl (by omega) (t_ari rfl rfl rfl rfl rfl (by omega) (t_assign rfl rfl rfl (t_nil' (hK5 _ _ (c_seq fun K6 hK6 => (c_region (t_move rfl rfl rfl (t_cmp rfl rfl rfl rfl rfl (t_nil' (hK6 _ _ (c_condp rfl (fun g16 => ?_) (fun g16 => ?_))))))))))))))))))))))
 ·
  refine c_region (t_move rfl rfl rfl (t_move rfl rfl rfl (t_cap underlying142 rfl rfl rfl rfl (t_sliceTo (0) underlying142 sizeOf131 rfl rfl rfl rfl (by omega) (by omega) (t_same 20 (v := .slice none 0 0) rfl (by rfl) (t_move rfl rfl rfl (t_appZN (z := .agg #[.int .i64 0, .int .i64 0, .slice none 0 0, .slice none 0 0, .slice none 0 0]) (bytes := 88) (k := 5) n underlying142 underlying3 (by kernel_rfl) rfl (by decide) rfl rfl rfl rfl (by omega) (by omega) (by omega) (by decide) (fun cN w7 zs hcN hcM hzl B9 u8 => ?_))))))))
  have zu8 := u8.size
  refine t_move rfl rfl rfl (t_len underlying142 rfl rfl rfl rfl (t_sliceTo (0) underlying142 sizeOf131 rfl rfl rfl rfl (by omega) (by omega) (t_same 25 (v := .slice (some ⟨w0.heap.size, 0, none⟩) 0 cN) rfl (by rw [subAddr_some (by omega)]) (t_assign rfl rfl rfl (t_nil' (hK4 _ _ (c_seq fun K11 hK11 => (c_region (t_move rfl rfl rfl (t_assign rfl rfl rfl (t_nil' (hK11 _ _ (c_ret (f_ret1 (v := .slice (some ⟨w0.heap.size, 0, none⟩) 0 cN) results99 rfl ?_))))))))))))))
  exact ⟨⟨_, _, cN, rfl, Acc.ofRaw (cs := zs) B9 (by omega) (Nat.zero_le _) hcM hzl (by rfl)⟩, (E0.nx u8)⟩
 refine c_skip (hK4 _ _ (c_seq fun K12 hK12 => (c_region (t_move rfl rfl rfl (t_assign rfl rfl rfl (t_nil' (hK12 _ _ (c_ret (f_ret1 (v := .slice none 0 0) results99 rfl ?_)))))))))
 exact ⟨⟨none, 0, 0, rfl, Acc.nil _ _ _ _ _ hpos (by omega)⟩, E0⟩

theorem concat_c (L : List HMS) (ns : List HM) (al : Option Addr) (bl ol cl : Nat) (w0 : World) (hL : Sl encHMS 1 w0 al bl ol L) (hLm : ∀ h ∈ L, Sl encHM 5 w0 h.ao h.g h.o h.xs ∧ h.xs.length ≤ 6) (hLl : L.length ≤ 2) (he : L.flatMap HMS.xs = ns) (hpos : 0 < w0.heap.size) :
    CallsV Tryz.prog 72 [.slice al L.length cl] w0 (fun v w' => (∃ ao g cp, v = .slice ao (List.length ns) cp ∧ Acc encHM 5 131 w0.heap.size w' ao g cp ns) ∧ Ext w0 w') := by
 refine f_enter (N := 36) func72 rfl rfl rfl (c_seq fun K1 hK1 => (c_region (t_assign rfl rfl rfl (t_nil' (hK1 _ _ (c_seq fun K2 hK2 => (c_region (t_assign rfl rfl rfl (t_nil' (hK2 _ _ (c_seq fun K3 hK3 => (c_seq fun K4 hK4 => (c_region (t_move rfl rfl rfl (t_len underlying173 rfl rfl rfl rfl (t_move rfl rfl rfl (t_nil' (hK4 _ _ (c_block (c_loop (γ := Nat) (fun k => [(0, .slice al L.length cl), (3, .int .i64 (((L.take k).flatMap HMS.xs).length : Int)), (9, .slice al L.length cl), (10, .int .i64 (L.length : Int)), (11, .int .i64 (k : Int))]) (fun k w => Upd (fun _ => False) w0 w ∧ (k ≤ L.length) ∧ (((L.take k).flatMap HMS.xs).length ≤ 6 * k)) (fun k => L.length - k) 0 ⟨rfl, (by first | exact congrArg (fun z => some (Value.int .i64 z)) (by rw [hst9, List.length_append]; omega) | rfl), rfl, rfl, rfl, trivial⟩ ⟨Upd.refl _ _, (Nat.zero_le _), (Nat.le_refl _)⟩ ?_))))))))))))))))))))
 intro k w6 hW K5 hK5
 obtain ⟨u7, I8, I9⟩ := hW
 have zu7 := u7.size
 have E10 := (Upd.refl (fun _ => False) w0).nx u7
 have hk := I8; clear I8
 have hsum := I9; clear I9
 have hs6 := hLm (nth L k)
 refine c_seq fun K11 hK11 => (c_region (t_cmp rfl rfl rfl rfl rfl (t_nil' (hK11 _ _ (c_seq fun K12 hK12 => (c_condp rfl (fun g12 => ?_) (fun g12 => ?_)))))))
 ·
  have hst9 : ((L.take (k + 1)).flatMap HMS.xs) = ((L.take k).flatMap HMS.xs) ++ (nth L k).xs := by rw [take_nth (show k < L.length by omega), List.flatMap_append]; simp
  have hx6 := (hLm _ (nth_mem (show k < L.length by omega))).2
  refine c_skip (hK12 _ _ (c_seq fun K13 hK13 => (c_block (c_seq fun K14 hK14 => (c_region ?_)))))
  have i15 : k < L.length := (by omega)
  refine t_index (j := k) underlying173 sizeOf142 rfl rfl rfl rfl ((hL.keep E10 (fun _ h => h)).addr (by omega)) rfl i15 (t_load isAgg142 rfl rfl rfl (((hL.keep E10 (fun _ h => h)).at_ k (by omega)) 0 _ rfl) (t_assign rfl rfl rfl (t_nil' (hK14 _ _ (c_seq fun K16 hK16 => (c_region (t_move rfl rfl rfl (t_move rfl rfl rfl (t_len underlying142 rfl rfl rfl rfl (t_ari rfl rfl rfl rfl rfl (by omega) (t_assign rfl rfl rfl (t_nil' (hK16 _ _ (c_seq fun K17 hK17 => (c_region (t_move rfl rfl rfl (t_cmp rfl rfl rfl rfl rfl (t_same 20 (v := .bool false) rfl (congrArg Value.bool (decide_eq_false (by omega))) (t_nil' (hK17 _ _ (c_cond_f rfl (c_skip (hK13 _ _ ?_)))))))))))))))))))))))
  refine c_region (t_ari rfl rfl rfl rfl rfl (by omega) (t_move rfl rfl rfl (t_nil' ?_)))
  exact hK5 (k + 1) _ _ (by omega) ⟨rfl, (by first | exact congrArg (fun z => some (Value.int .i64 z)) (by rw [hst9, List.length_append]; omega) | rfl), rfl, rfl, rfl, trivial⟩ ⟨u7, (by omega), (by rw [hst9, List.length_append]; have := (hLm _ (nth_mem (show k < L.length by omega))).2; omega)⟩
 have hke : k = L.length := by omega
 have hsz : ((L.take k).flatMap HMS.xs) = ns := by rw [hke, List.take_length]; exact he
 refine c_exit (hK3 _ _ (c_seq fun K18 hK18 => (c_region (t_move rfl rfl rfl (t_call own99 rfl rfl rfl rfl (grow_c ((L.take k).flatMap HMS.xs).length _ (by omega) (by omega)) (fun v19 w20 r22 => ?_))))))
 obtain ⟨⟨aG, gG, cG, rfl, haG⟩, u21⟩ := r22
 have zu21 := u21.size
 obtain ⟨gL, haL⟩ := Acc.lower (base' := w0.heap.size) haG (by omega) hpos
 have lt_gL := haL.lt
 refine t_assign rfl rfl rfl (t_nil' (hK18 _ _ (c_seq fun K24 hK24 => (c_seq fun K25 hK25 => (c_region (t_move rfl rfl rfl (t_len underlying173 rfl rfl rfl rfl (t_move rfl rfl rfl (t_nil' (hK25 _ _ (c_block (c_loop (γ := Nat × Option Addr × Nat × Nat) (fun gg => [(6, .slice gg.2.1 (((L.take gg.1).flatMap HMS.xs).length) gg.2.2.2), (25, .slice al L.length cl), (26, .int .i64 (L.length : Int)), (27, .int .i64 (gg.1 : Int))]) (fun gg w => Upd (fun i => w0.heap.size ≤ i) w20 w ∧ (gg.1 ≤ L.length) ∧ (Acc encHM 5 131 w0.heap.size w gg.2.1 gg.2.2.1 gg.2.2.2 ((L.take gg.1).flatMap HMS.xs)) ∧ (((L.take gg.1).flatMap HMS.xs).length ≤ 6 * gg.1)) (fun gg => L.length - gg.1) (0, aG, gL, cG) ⟨(by first | (rw [hst9]; rfl) | rfl), rfl, rfl, rfl, trivial⟩ ⟨Upd.refl _ _, (Nat.zero_le _), haL, (Nat.le_refl _)⟩ ?_))))))))))))
 intro gg w27 hW K26 hK26
 obtain ⟨j, ao, gq, cg⟩ := gg
 change WC _ _ _ _ _ _ [(6, .slice ao (((L.take j).flatMap HMS.xs).length) cg), (25, .slice al L.length cl), (26, .int .i64 (L.length : Int)), (27, .int .i64 (j : Int))] _
 change Upd (fun i => w0.heap.size ≤ i) w20 w27 ∧ (j ≤ L.length) ∧ (Acc encHM 5 131 w0.heap.size w27 ao gq cg ((L.take j).flatMap HMS.xs)) ∧ (((L.take j).flatMap HMS.xs).length ≤ 6 * j) at hW
 obtain ⟨u28, I29, I30, I31⟩ := hW
 have zu28 := u28.size
 have E32 := (E10.nx u21).next u28 (fun i hi (h : w0.heap.size ≤ i) => show False by first | omega | assumption)
 have hj := I29; clear I29
 have hgr := I30; clear I30
 have hsj := I31; clear I31
 have lt_gq := hgr.lt
 refine c_seq fun K33 hK33 => (c_region (t_cmp rfl rfl rfl rfl rfl (t_nil' (hK33 _ _ (c_seq fun K34 hK34 => (c_condp rfl (fun g28 => ?_) (fun g28 => ?_)))))))
 ·
  have hst9 : ((L.take (j + 1)).flatMap HMS.xs) = ((L.take j).flatMap HMS.xs) ++ (nth L j).xs := by rw [take_nth (show j < L.length by omega), List.flatMap_append]; simp
  have hx6 := (hLm _ (nth_mem (show j < L.length by omega))).2
  refine c_skip (hK34 _ _ (c_seq fun K35 hK35 => (c_block (c_seq fun K36 hK36 => (c_region ?_)))))
  have i37 : j < L.length := (by omega)
  refine t_index (j := j) underlying173 sizeOf142 rfl rfl rfl rfl ((hL.keep E32 (fun _ h => h)).addr (by omega)) rfl i37 (t_load isAgg142 rfl rfl rfl (((hL.keep E32 (fun _ h => h)).at_ j (by omega)) 0 _ rfl) (t_assign rfl rfl rfl (t_nil' (hK36 _ _ (c_region (t_move rfl rfl rfl (t_move rfl rfl rfl (t_appendAll (enc := encHM) (z := .agg #[.int .i64 0, .int .i64 0, .slice none 0 0, .slice none 0 0, .slice none 0 0]) (bytes := 88) (k := 5) (base := w0.heap.size) (xs := ((L.take j).flatMap HMS.xs)) (ys := (nth L j).xs) underlying142 (by kernel_rfl) rfl (by decide) (fun _ => rfl) (by intro x; simp [encHM, Value.oneCell']) rfl rfl rfl rfl hgr ((hLm (nth L j) (nth_mem (by omega))).1.keep E32 (fun _ h => h)) (by omega) (by omega) (by omega) (by decide) (fun ao38 gb39 cp40 w41 A42 u43 gegb39 lngb39 => ?_)))))))))
  have zu43 := u43.size
  have lt_gb39 := A42.lt
  refine t_assign rfl rfl rfl (t_nil' (hK35 _ _ (c_region (t_ari rfl rfl rfl rfl rfl (by omega) (t_move rfl rfl rfl (t_nil' ?_))))))
  exact hK26 (j + 1, ao38, gb39, cp40) _ _ (by show L.length - (j + 1) < L.length - j; omega) ⟨(by first | (rw [hst9]; rfl) | rfl), rfl, rfl, rfl, trivial⟩ ⟨(u28.next u43 (fun i hi (h : (i = gq ∧ w0.heap.size ≤ i)) => show w0.heap.size ≤ i by first | omega | assumption)), (by omega), (by rw [hst9]; exact A42), (by rw [hst9, List.length_append]; have := (hLm _ (nth_mem (show j < L.length by omega))).2; omega)⟩
 have hje : ((L.take j).flatMap HMS.xs) = ns := by rw [show j = L.length by omega, List.take_length]; exact he
 rw [hje] at hgr
 refine c_same 6 (v := .slice ao ns.length cg) rfl (by rw [hje]) (c_exit (hK24 _ _ (c_seq fun K45 hK45 => (c_region (t_move rfl rfl rfl (t_assign rfl rfl rfl (t_nil' (hK45 _ _ (c_ret (f_ret1 (v := .slice ao ns.length cg) results72 rfl ?_))))))))))
 exact ⟨⟨ao, gq, cg, rfl, hgr⟩, E32⟩

set_option maxHeartbeats 1000000 in
theorem Spare_c (r : Rul) (hs : List HS) (al : Option Addr) (bl ol cl : Nat) (xs : List Leg) (ax : Option Addr) (bx ox cx : Nat) (w0 : World) (hl : Sl encHS 4 w0 al bl ol hs) (hll : hs.length ≤ 1000000) (hsm : ∀ h ∈ hs, SlrM w0 h) (hxs : Sl encLeg 7 w0 ax bx ox xs) (hxl : xs.length ≤ 1000000) (hcx : xs.length ≤ cx) (hpos : 0 < w0.heap.size) :
    CallsV Tryz.prog 38 [.agg #[.int .i64 r.rest, .int .i64 r.span, .int .i64 r.work, .int .i64 r.week, .int .i64 r.ww], .slice al hs.length cl, .slice ax xs.length cx] w0 (fun v w' => (∃ ao g cp l e, v = .tuple #[.slice ao (List.length l) cp, .int .i64 e] ∧ Sl encI 1 w' ao g 0 l ∧ SpareR r (hs.map HS.slr) xs l e) ∧ Ext w0 w') := by
 refine f_enter (N := 57) func38 rfl rfl rfl (c_seq fun K1 hK1 => (c_region (t_box (cs := [.int .i64 r.rest, .int .i64 r.span, .int .i64 r.work, .int .i64 r.week, .int .i64 r.ww]) rfl rfl rfl rfl (fun bk2 w3 ebk2 sbk2 B4 u5 => ?_))))
 have zu5 := u5.size
 have E6 := (Upd.refl (fun _ => False) w0).nx u5
 refine t_assign rfl rfl rfl (t_assign rfl rfl rfl (t_nil' (hK1 _ _ (c_seq fun K7 hK7 => (c_region (t_loadN (vs := [.int .i64 r.rest, .int .i64 r.span, .int .i64 r.work, .int .i64 r.week, .int .i64 r.ww]) isAgg23 sizeOf23 rfl rfl rfl (B4.at.sub 0 5) rfl (t_move rfl rfl rfl (t_move rfl rfl rfl ?_))))))))
 have D8 := (hxs.kE u5)
 refine t_call own57 rfl rfl rfl rfl (open_c r hs al bl ol cl xs ax bx ox cx _ (hl.keep E6 (fun _ h => h)) hll (fun h hh => (hsm h hh).ext E6) D8 hxl (by omega)) (fun v9 w10 r12 => ?_)
 obtain ⟨⟨po, _, rfl, rfl, hpo⟩, u11⟩ := r12
 have zu11 := u11.size
 have E13 := E6.nx u11
 have hopw : Ext w0 w10 := E13
 have hopu : Ext w3 w10 := u11
 refine t_move rfl rfl rfl (t_extract rfl rfl rfl rfl (t_extract rfl rfl rfl rfl (t_assign rfl rfl rfl (t_assign rfl rfl rfl (t_nil' (hK7 _ _ (c_seq fun K14 hK14 => (c_block (c_seq fun K15 hK15 => (c_region (t_move rfl rfl rfl (t_cmp rfl rfl rfl rfl rfl (t_assign rfl rfl rfl (t_nil' (hK15 _ _ (c_condp rfl (fun g18 => ?_) (fun g18 => ?_)))))))))))))))))
 ·
  refine c_seq fun K16 hK16 => (c_region (t_move rfl rfl rfl (t_assign rfl rfl rfl (t_assign rfl rfl rfl (t_nil' (hK16 _ _ (c_ret (f_ret2 (v1 := .slice none 0 0) (v2 := .int .i64 (openE r (hs.map HS.slr) xs)) results38 rfl rfl ?_))))))))
  exact ⟨⟨none, 0, 0, [], _, rfl, Sl.nil _ _ _ _ _ _, .inl ⟨g18, rfl, rfl⟩⟩, E13⟩
 have h0 : openE r (hs.map HS.slr) xs = 0 := Decidable.not_not.1 g18
 obtain ⟨cO, am, mb, cm, ms, hpe, hcg, hcb, hrow, hmm⟩ := hpo h0
 refine c_same 8 (v := .pointer (some ⟨cO, 0, none⟩)) rfl (by rw [hpe]) ?_
 have hcr := CrewM.open h0 (by omega) hopu hcg hcb hrow hmm
 obtain ⟨_, h6, _, h8, h9⟩ := openE_ok h0
 have hma : ms.map HM.mb = (hs.map HS.slr).map boardP := by rw [hmm, List.map_map]; rfl
 have lmb := hrow.acc.lt
 have hcM0 := hrow.acc.cap_le
 have hm6 := hcr.hn
 refine c_seq fun K17 hK17 => (c_region (t_move rfl rfl rfl (t_move rfl rfl rfl ?_)))
 have D18 := (D8.kE u11)
 refine t_call own70 rfl rfl rfl rfl (safe_c r w3.heap.size cO am mb cm ms.length 20 ms xs ax bx ox cx _ hcr h9 (by omega) (by omega) D18 hcx (fun hp hb => by have := hxs.lt hp; omega)) (fun v19 w20 r22 => ?_)
 obtain ⟨rfl, hrowS, u21⟩ := r22
 have zu21 := u21.size
 have E23 := E13.next u21 (fun i hi (h : TP (MB mb w3.heap.size) w3.heap.size w10 i) => show False by first | omega | assumption | exact h.elim (fun q => q.2) (fun q => q.1) | exact h.elim (fun h => by have := h.2; omega) (fun h => by have := h.1; omega))
 refine t_not rfl rfl rfl (t_assign rfl rfl rfl (t_nil' (hK17 _ _ (c_cond rfl (fun g22 => ?_) (fun g22 => ?_)))))
 ·
  have hsf : sfP r xs (ms.map HM.mb) = false := (by unfold sfP; simpa using g22)
  refine c_seq fun K24 hK24 => (c_region (t_assign rfl rfl rfl (t_assign rfl rfl rfl (t_nil' (hK24 _ _ (c_ret (f_ret2 (v1 := .slice none 0 0) (v2 := .int .i64 7) results38 rfl rfl ?_)))))))
  exact ⟨⟨none, 0, 0, [], _, rfl, Sl.nil _ _ _ _ _ _, .inr (.inl ⟨h0, by rw [← hma]; exact hsf, rfl, rfl⟩)⟩, E23⟩
 have hsf : sfP r xs (ms.map HM.mb) = true := (by unfold sfP; simpa using g22)
 have hmne : w3.heap.size ≤ mb → ¬ (mb = cO) := hrowS.row.acc.neBlk hrowS.blk (by decide)
 have hgne : ∀ m ∈ ms, w3.heap.size ≤ m.gt → ¬ (m.gt = cO) := fun m hm => (hrowS.row.mem m hm).ht.neBlk hrowS.blk (by decide)
 have hcOl := hrowS.blk.lt
 refine c_skip (hK14 _ _ (c_seq fun K25 hK25 => (c_region (t_move rfl rfl rfl (t_nilchk rfl rfl rfl (t_field underlying144 rfl sizeOf142 (5) rfl rfl rfl rfl (t_load isAgg142 rfl rfl rfl (hrowS.blk.get rfl) (t_assign rfl rfl rfl (t_nil' (hK25 _ _ (c_seq fun K26 hK26 => (c_seq fun K27 hK27 => (c_region (t_move rfl rfl rfl (t_len underlying142 rfl rfl rfl rfl (t_move rfl rfl rfl (t_nil' (hK27 _ _ (c_block (c_loop (γ := Nat × Option Addr × Nat × Nat × Option Addr × Nat × Nat × List Int) (fun gg => [(2, .slice ax xs.length cx), (6, .slice gg.2.2.2.2.1 gg.2.2.2.2.2.2.2.length gg.2.2.2.2.2.2.1), (8, .pointer (some ⟨cO, 0, none⟩)), (9, .slice am ms.length cm), (32, .int .i64 (ms.length : Int)), (33, .int .i64 (gg.1 : Int))]) (fun gg w => Upd (fun i => w3.heap.size ≤ i) w20 w ∧ (gg.1 ≤ ms.length) ∧ (Blk w cO 144 [.int .i64 r.rest, .int .i64 r.span, .int .i64 r.work, .int .i64 r.week, .int .i64 r.ww, .slice gg.2.1 gg.2.2.1 gg.2.2.2.1]) ∧ (RowM F0 w3.heap.size w am mb cm ms) ∧ (Acc encI 1 3 w20.heap.size w gg.2.2.2.2.1 gg.2.2.2.2.2.1 gg.2.2.2.2.2.2.1 gg.2.2.2.2.2.2.2) ∧ (gg.2.2.2.2.2.2.2 = spG r xs (ms.map HM.mb) gg.1) ∧ (gg.2.2.2.2.2.2.2.length ≤ gg.1)) (fun gg => ms.length - gg.1) (0, am, ms.length, cm, none, 0, 0, []) ⟨rfl, rfl, rfl, rfl, rfl, rfl, trivial⟩ ⟨Upd.refl _ _, (Nat.zero_le _), hrowS.blk, hrowS.row, (Acc.nil _ _ _ _ _ (by omega) (by omega)), rfl, (Nat.le_refl _)⟩ ?_))))))))))))))))))))
 intro gg w29 hW K28 hK28
 obtain ⟨i9, a2, n2, c2, ao, go, co, out⟩ := gg
 change WC _ _ _ _ _ _ [(2, .slice ax xs.length cx), (6, .slice ao out.length co), (8, .pointer (some ⟨cO, 0, none⟩)), (9, .slice am ms.length cm), (32, .int .i64 (ms.length : Int)), (33, .int .i64 (i9 : Int))] _
 change Upd (fun i => w3.heap.size ≤ i) w20 w29 ∧ (i9 ≤ ms.length) ∧ (Blk w29 cO 144 [.int .i64 r.rest, .int .i64 r.span, .int .i64 r.work, .int .i64 r.week, .int .i64 r.ww, .slice a2 n2 c2]) ∧ (RowM F0 w3.heap.size w29 am mb cm ms) ∧ (Acc encI 1 3 w20.heap.size w29 ao go co out) ∧ (out = spG r xs (ms.map HM.mb) i9) ∧ (out.length ≤ i9) at hW
 obtain ⟨u30, I31, I32, I33, I34, I35, I36⟩ := hW
 have zu30 := u30.size
 have hi := I31; clear I31
 have hcbk := I32; clear I32
 have hrA := I33; clear I33
 have hout := I34; clear I34
 have hou := I35; clear I35
 have hol := I36; clear I36
 have lt_go := hout.lt
 refine c_seq fun K38 hK38 => (c_region (t_cmp rfl rfl rfl rfl rfl (t_nil' (hK38 _ _ (c_seq fun K39 hK39 => (c_condp rfl (fun g34 => ?_) (fun g34 => ?_)))))))
 ·
  refine c_skip (hK39 _ _ (c_seq fun K40 hK40 => (c_block (c_seq fun K41 hK41 => (c_region (t_move rfl rfl rfl (t_assign rfl rfl rfl (t_nil' (hK41 _ _ (c_seq fun K42 hK42 => (c_drawnM follows (fun i => i = cO) (.look 0 (.look 1 (.look 2 (.look 3 (.look 4 (.look 5 (.look 6 (.look 7 (.act 8 (.act 9 (.look 10 (.look 11 (.act 12 .done .stop))) .stop) .stop))))))))) (by kernel_rfl) fun w43 u44 => ?_)))))))))))
  have zu44 := u44.size
  refine y_move rfl rfl rfl (y_move rfl rfl rfl (y_move rfl rfl rfl (y_sliceTo (i9) underlying142 sizeOf131 rfl rfl rfl rfl (by omega) (by omega) (y_same 39 (v := .slice (subAddr am cm 0 5) ((ms.take i9).length) cm) rfl (by rw [List.length_take, Nat.min_eq_left (by omega)]; first | done | (congr 1; omega) | omega) (y_move rfl rfl rfl (y_move rfl rfl rfl (y_ari rfl rfl rfl rfl rfl (by omega) (y_sliceFrom (i9 + 1) underlying142 sizeOf131 rfl rfl rfl rfl rfl (by omega) (by omega) (y_same 43 (v := .slice (subAddr am cm (i9 + 1) 5) ((ms.drop (i9 + 1)).length) (cm - (i9 + 1))) rfl (by rw [List.length_drop]; first | done | (congr 1; omega) | omega) (s_do (t_bslice (ps := [(0, .slice (subAddr am cm 0 5) ((ms.take i9).length) cm), (1, .slice (subAddr am cm (i9 + 1) 5) ((ms.drop (i9 + 1)).length) (cm - (i9 + 1)))]) (cs := [.slice (subAddr am cm 0 5) ((ms.take i9).length) cm, .slice (subAddr am cm (i9 + 1) 5) ((ms.drop (i9 + 1)).length) (cm - (i9 + 1))]) (e := 142) rfl rfl ⟨rfl, rfl⟩ (fun w => by kernel_rfl) (fun bk46 w47 ebk46 sbk46 B48 u49 => ?_))))))))))))
  have zu49 := u49.size
  refine s_next ((Upd.refl _ _).nx u49) (s_do ?_)
  have D51 := ((hrA.ext u44).ext u49)
  have hrAc := D51
  have hsA := hrAc.acc.sl (fun _ => rfl)
  have hLm9 : ∀ h ∈ [(⟨ms.take i9, subAddr am cm 0 5, mb, 0, cm⟩ : HMS), ⟨ms.drop (i9 + 1), subAddr am cm (i9 + 1) 5, mb, 0 + (i9 + 1) * 5, cm - (i9 + 1)⟩], Sl encHM 5 w47 h.ao h.g h.o h.xs ∧ h.xs.length ≤ 6 := by
    intro h hh
    simp only [List.mem_cons, List.not_mem_nil, or_false] at hh
    rcases hh with rfl | rfl
    · exact ⟨Sl.subTo hsA cm i9 hcM0, by show (ms.take i9).length ≤ 6; rw [List.length_take]; omega⟩
    · refine ⟨?_, by show (ms.drop (i9 + 1)).length ≤ 6; rw [List.length_drop]; omega⟩
      have h9 := hsA.sub cm (i9 + 1) ms.length hcM0
      rwa [List.take_of_length_le (by rw [List.length_drop]; omega)] at h9
  refine t_call own72 rfl rfl rfl rfl (concat_c [(⟨ms.take i9, subAddr am cm 0 5, mb, 0, cm⟩ : HMS), ⟨ms.drop (i9 + 1), subAddr am cm (i9 + 1) 5, mb, 0 + (i9 + 1) * 5, cm - (i9 + 1)⟩] (ms.take i9 ++ ms.drop (i9 + 1)) (some ⟨bk46, 0, none⟩) bk46 0 2 _ (Sl.ofBlk (enc := encHMS) (fun _ => rfl) B48) hLm9 (Nat.le_refl 2) (by simp) (by omega)) (fun v52 w53 r55 => ?_)
  obtain ⟨⟨aN, gN0, cN, rfl, haN0⟩, u54⟩ := r55
  have zu54 := u54.size
  obtain ⟨gN, haN, hgN⟩ := Acc.lower' (base' := w3.heap.size) haN0 (by omega) (by omega)
  have lgN := haN.lt
  refine s_next ((Upd.refl _ _).nx u54) (y_nilchk rfl rfl rfl (y_field underlying144 rfl sizeOf142 (5) rfl rfl rfl rfl (s_do ?_)))
  have B57 := (((hcbk.kx u44).kx u49).kx u54)
  refine t_st (vs := [.slice aN ((ms.take i9 ++ ms.drop (i9 + 1)).length) cN]) sizeOf142 rfl rfl rfl B57 rfl rfl rfl rfl (fun w58 sw58 B60 u59 => ?_)
  have zu59 := u59.size
  have B60 : Blk w58 cO 144 [.int .i64 r.rest, .int .i64 r.span, .int .i64 r.work, .int .i64 r.week, .int .i64 r.ww, .slice aN ((ms.take i9 ++ ms.drop (i9 + 1)).length) cN] := B60
  refine s_next ((Upd.refl _ _).next u59 (fun i hi (h : i = cO) => show w43.heap.size ≤ i ∨ (i = cO) by first | omega | exact .inr h)) (s_nil (hK42 _ _ (c_seq fun K62 hK62 => (c_region (t_move rfl rfl rfl (t_move rfl rfl rfl ?_))))))
  have D63 := (RowM.upd (D51.ext u54) u59 hmne (fun i hi => by omega) hgne)
  have D64 := (haN.keep u59 (fun hb => show ¬ (gN = cO) by have := hgN hb; omega))
  have D65 := ((((hout.kE u44).kE u49).kE u54).keep u59 (fun hb => show ¬ (go = cO) by first | omega | assumption))
  have D66 := ((((((D18.keep u21 (fun h9 => by have h7 := hxs.lt h9; show ¬ (TP (MB mb w3.heap.size) w3.heap.size w10 bx); first | omega | exact TP.belowM (by omega))).keep u30 (fun h9 => by have h7 := hxs.lt h9; show ¬ (w3.heap.size ≤ bx); first | omega | exact TP.belowM (by omega))).kE u44).kE u49).kE u54).keep u59 (fun h9 => by have h7 := hxs.lt h9; show ¬ (bx = cO); first | omega | exact TP.belowM (by omega)))
  have hrAp := D63
  have hNp := D64
  have hop := D65
  have lgo := hop.lt
  have hsub : ∀ m ∈ (ms.take i9 ++ ms.drop (i9 + 1)), m ∈ ms := fun m hm => (List.mem_append.1 hm).elim List.mem_of_mem_take List.mem_of_mem_drop
  have hnl : (ms.take i9 ++ ms.drop (i9 + 1)).length ≤ 6 := by rw [List.length_append, List.length_take, List.length_drop]; omega
  have hcrN : CrewM r w3.heap.size cO aN gN cN (ms.take i9 ++ ms.drop (i9 + 1)).length 20 (ms.take i9 ++ ms.drop (i9 + 1)) w58 := ⟨hcr.hr, ⟨⟨hNp, fun m hm => hrAp.mem m (hsub m hm)⟩, B60, rfl⟩, hnl, fun m hm => hcr.hB m (hsub m hm), ⟨hcr.hpb.1, by omega⟩, hcr.hc⟩
  have hop2 := hop.notTP (F := MB gN w3.heap.size) (pb := w3.heap.size) (fun hb q => by have h7 : go = gN := q.1; have := hgN (by have := q.2; omega); omega) (by decide)
  refine t_call own70 rfl rfl rfl rfl (safe_c r w3.heap.size cO aN gN cN (ms.take i9 ++ ms.drop (i9 + 1)).length 20 (ms.take i9 ++ ms.drop (i9 + 1)) xs ax bx ox cx _ hcrN h9 (by omega) (by omega) D66 hcx (fun hp hb => by have := hxs.lt hp; omega)) (fun v67 w68 r70 => ?_)
  obtain ⟨rfl, hrowT, u69⟩ := r70
  have zu69 := u69.size
  have hrA2 := RowM.upd hrAp u69 (hrAp.acc.notTP (fun hb q => by have h7 : mb = gN := q.1; have := hgN (by have := q.2; omega); have := hrA.acc.lt; omega) (by decide)) (fun i hi => hi.elim (fun q => q.2) (fun q => q.1)) (fun m hm => (hrAp.mem m hm).ht.notTP (fun hb q => (hrAp.mem m hm).ht.neAcc hNp (by decide) hb (q.1 ▸ q.2) q.1) (by decide))
  have hout2 := hop.keep u69 hop2
  have lt_go := hout2.lt
  refine t_nil' (hK62 _ _ (c_cond rfl (fun g50 => ?_) (fun g50 => ?_)))
  ·
   refine c_region (t_move rfl rfl rfl (t_move rfl rfl rfl (t_bslice (ps := [(0, .int .i64 (i9 : Int))]) (cs := [.int .i64 (i9 : Int)]) (e := 3) rfl rfl ⟨rfl, rfl⟩ (fun w => by kernel_rfl) (fun bk72 w73 ebk72 sbk72 B74 u75 => ?_))))
   have zu75 := u75.size
   have D77 := (hout2.kE u75)
   refine t_append (z := .int .i64 0) (bytes := 8) (k := 1) (base := w20.heap.size) (i9 : Int) underlying60 (by kernel_rfl) rfl (by decide) (fun _ => rfl) (by intro x; simp [encI, Value.oneCell']) rfl rfl rfl rfl D77 B74 (by omega) (by omega) (by decide) (fun ao78 gb79 cp80 w81 A82 u83 gegb79 lngb79 => ?_)
   have zu83 := u83.size
   have lt_gb79 := A82.lt
   refine t_assign rfl rfl rfl (t_nil' (hK40 _ _ (c_region (t_ari rfl rfl rfl rfl rfl (by omega) (t_move rfl rfl rfl (t_nil' ?_))))))
   have B85 := ((hrowT.blk.kx u75).keep u83 (by omega))
   have D86 := (RowM.upd (hrA2.ext u75) u83 (fun hb => show ¬ ((mb = go ∧ w20.heap.size ≤ mb)) by omega) (fun i hi => by omega) (fun m hm hb => show ¬ ((m.gt = go ∧ w20.heap.size ≤ m.gt)) by have := (hrowS.row.mem m hm).ht.lt; omega))
   exact hK28 (i9 + 1, aN, (ms.take i9 ++ ms.drop (i9 + 1)).length, cN, ao78, gb79, cp80, (out ++ [(i9 : Int)])) _ _ (by show ms.length - (i9 + 1) < ms.length - i9; omega) ⟨rfl, rfl, rfl, rfl, rfl, rfl, trivial⟩ ⟨(((((((u30.nx u44).nx u49).nx u54).next u59 (fun i hi (h : i = cO) => show w3.heap.size ≤ i by first | omega | assumption | exact h.elim (fun q => q.2) (fun q => q.1) | exact h.elim (fun h => by have := h.2; omega) (fun h => by have := h.1; omega))).next u69 (fun i hi (h : TP (MB gN w3.heap.size) w3.heap.size w58 i) => show w3.heap.size ≤ i by first | omega | assumption | exact h.elim (fun q => q.2) (fun q => q.1) | exact h.elim (fun h => by have := h.2; omega) (fun h => by have := h.1; omega))).nx u75).next u83 (fun i hi (h : (i = go ∧ w20.heap.size ≤ i)) => show w3.heap.size ≤ i by first | omega | assumption | exact h.elim (fun q => q.2) (fun q => q.1) | exact h.elim (fun h => by have := h.2; omega) (fun h => by have := h.1; omega))), (by omega), B85, D86, A82, (by rw [hou, spG, if_pos (by rw [← List.map_take, ← List.map_drop, ← List.map_append]; exact g50)]), (by show (out ++ [(i9 : Int)]).length ≤ i9 + 1; rw [List.length_append, List.length_singleton]; omega)⟩
  refine c_skip (hK40 _ _ (c_region (t_ari rfl rfl rfl rfl rfl (by omega) (t_move rfl rfl rfl (t_nil' ?_)))))
  exact hK28 (i9 + 1, aN, (ms.take i9 ++ ms.drop (i9 + 1)).length, cN, ao, go, co, out) _ _ (by show ms.length - (i9 + 1) < ms.length - i9; omega) ⟨rfl, rfl, rfl, rfl, rfl, rfl, trivial⟩ ⟨(((((u30.nx u44).nx u49).nx u54).next u59 (fun i hi (h : i = cO) => show w3.heap.size ≤ i by first | omega | assumption | exact h.elim (fun q => q.2) (fun q => q.1) | exact h.elim (fun h => by have := h.2; omega) (fun h => by have := h.1; omega))).next u69 (fun i hi (h : TP (MB gN w3.heap.size) w3.heap.size w58 i) => show w3.heap.size ≤ i by first | omega | assumption | exact h.elim (fun q => q.2) (fun q => q.1) | exact h.elim (fun h => by have := h.2; omega) (fun h => by have := h.1; omega))), (by omega), hrowT.blk, hrA2, hout2, (by rw [hou, spG, if_neg (by rw [← List.map_take, ← List.map_drop, ← List.map_append]; unfold sfP; rw [g50]; simp), List.append_nil]), (by show out.length ≤ i9 + 1; omega)⟩
 refine c_exit (hK26 _ _ (c_seq fun K87 hK87 => (c_region (t_move rfl rfl rfl (t_assign rfl rfl rfl (t_assign rfl rfl rfl (t_nil' (hK87 _ _ (c_ret (f_ret2 (v1 := .slice ao out.length co) (v2 := .int .i64 0) results38 rfl rfl ?_))))))))))
 have hln : ms.length = (hs.map HS.slr).length := by have := congrArg List.length hma; simpa using this
 exact ⟨⟨ao, go, co, out, 0, rfl, hout.sl (fun _ => rfl), .inr (.inr ⟨h0, by rw [← hma]; exact hsf, rfl, by rw [hou, ← hma, ← hln, show i9 = ms.length by omega]⟩)⟩, (E23.next u30 (fun i hi (h : w3.heap.size ≤ i) => show False by first | omega | assumption | exact h.elim (fun q => q.2) (fun q => q.1) | exact h.elim (fun h => by have := h.2; omega) (fun h => by have := h.1; omega)))⟩

end Go.Proofs.YtagmodjadmecdaaGreat
