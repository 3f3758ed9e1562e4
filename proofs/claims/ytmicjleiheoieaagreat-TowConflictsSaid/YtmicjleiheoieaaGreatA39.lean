/-
  The reference's Conflicts, and: the law TowConflicts returns true. Conditions: none.
-/
import Derived.Test.YtmicjleiheoieaaGreatA13
import Derived.Test.YtmicjleiheoieaaGreatA34
import Derived.Test.YtmicjleiheoieaaGreatA38
namespace Go.Proofs.YtmicjleiheoieaaGreat
open Go Go.RowKit
theorem fm_len {α β : Type} {f : α → List β} {B : Nat} : ∀ {l : List α}, (∀ x ∈ l, (f x).length ≤ B) → (l.flatMap f).length ≤ l.length * B
  | [], _ => by simp
  | x :: l, h => by
    have h1 := h x (by simp)
    have h2 := fm_len (l := l) (fun y hy => h y (by simp [hy]))
    rw [List.flatMap_cons, List.length_append, List.length_cons, Nat.succ_mul]; omega
theorem confL_len {l : List Voy} {ns : List Nar} (hl : l.length ≤ 12) (hn : ns.length ≤ 20) : (confL l ns).length ≤ 2880 := by
  have h : (confL l ns).length ≤ (List.range l.length).length * 240 := by
    refine fm_len fun i hi => ?_
    have hi' : i < l.length := by simpa using hi
    have h2 : ((List.range' (i + 1) (l.length - (i + 1))).flatMap fun j => confS l ns i j).length ≤ (List.range' (i + 1) (l.length - (i + 1))).length * 20 := by
      refine fm_len fun j _ => ?_
      unfold confS
      rw [List.length_map]
      exact Nat.le_trans (List.length_filter_le _ _) (by simp; omega)
    rw [List.length_range'] at h2
    omega
  rw [List.length_range] at h
  omega
theorem okGo_of {v : Voy} (h : okVoy v = true) : okGo v := ⟨okVoy_rng h, v.st, h⟩
theorem nth_mapv (vs : List HVoy) (j : Nat) : nth (vs.map HVoy.v) j = (nth vs j).v := by
  simp only [nth, List.getD_eq_getElem?_getD, List.getElem?_map]
  cases vs[j]? <;> rfl
def confRow (l : List Voy) (ns : List Nar) (i n : Nat) : List Mt := (List.range' (i + 1) n).flatMap fun j => confS l ns i j
theorem confRow_succ {l : List Voy} {ns : List Nar} {i n : Nat} : confRow l ns i (n + 1) = confRow l ns i n ++ confS l ns i (i + 1 + n) := by
  unfold confRow; rw [List.range'_concat, List.flatMap_append]; simp
def confI (l : List Voy) (ns : List Nar) (n : Nat) : List Mt := (List.range n).flatMap fun i => confRow l ns i (l.length - (i + 1))
theorem confI_succ {l : List Voy} {ns : List Nar} {n : Nat} : confI l ns (n + 1) = confI l ns n ++ confRow l ns n (l.length - (n + 1)) := by
  unfold confI; rw [List.range_succ, List.flatMap_append]; simp
theorem confI_all {l : List Voy} {ns : List Nar} : confI l ns l.length = confL l ns := rfl
def confK (l : List Voy) (ns : List Nar) (i j n : Nat) : List Mt := ((List.range n).filter fun k => barsV (nth l i) (nth l j) (nth ns k)).map fun k => ⟨i, j, k⟩
theorem confK_succ {l : List Voy} {ns : List Nar} {i j n : Nat} : confK l ns i j (n + 1) = confK l ns i j n ++ (if barsV (nth l i) (nth l j) (nth ns n) then [⟨i, j, n⟩] else []) := by
  unfold confK; rw [filter_succ, List.map_append]; cases h : barsV (nth l i) (nth l j) (nth ns n) <;> simp
theorem confK_len {l : List Voy} {ns : List Nar} {i j n : Nat} : (confK l ns i j n).length ≤ n := by
  unfold confK; rw [List.length_map]; exact Nat.le_trans (List.length_filter_le _ _) (by simp)

theorem own3 : Own Tryz.prog 3 := ⟨Tryz.f3, Tryz.func3, by kernel_rfl, by kernel_rfl⟩
theorem own11 : Own Tryz.prog 11 := ⟨Tryz.f11, Tryz.func11, by kernel_rfl, by kernel_rfl⟩

set_option maxHeartbeats 1000000 in
theorem rConflicts_c (vs : List HVoy) (av : Option Addr) (bv ov cv : Nat) (ns : List Nar) (an : Option Addr) (bn on cn : Nat) (w0 : World) (hs : Sl encHVoy 5 w0 av bv ov vs) (hruns : ∀ x ∈ vs, Sl encRun 6 w0 x.ao x.b x.o x.v.runs) (hn : Sl encNar 4 w0 an bn on ns) (hvl : vs.length ≤ 12) (hnl : ns.length ≤ 20) (hokv : ∀ x ∈ vs, okVoy x.v = true) (hokn : ∀ n ∈ ns, okNar n = true) (hthr : ∀ x ∈ vs, ∀ n ∈ ns, thrE x.v n = 0) :
    CallsV Tryz.prog 11 [.slice av vs.length cv, .slice an ns.length cn] w0 (fun x w' => (∃ ao b cap, x = .slice ao (confL (vs.map HVoy.v) ns).length cap ∧ Sl encMt 3 w' ao b 0 (confL (vs.map HVoy.v) ns)) ∧ Ext w0 w') := by
 have E0 := Upd.refl (fun _ => False) w0
 refine f_enter (N := 51) Tryz.func11 rfl rfl rfl ?_
 change WC _ _ _ _ _ _ [(0, .slice av vs.length cv), (1, .slice an ns.length cn)] _
 refine c_seq fun K1 hK1 => (c_region (t_assign rfl rfl rfl (t_nil' (hK1 _ _ (c_seq fun K2 hK2 => (c_region (t_bslice (ps := []) (cs := []) (e := 40) rfl rfl ⟨rfl, rfl⟩ (fun w => by kernel_rfl) (fun bk3 w4 ebk3 sbk3 B5 u6 => ?_))))))))
 have zu6 := u6.size
 have E7 := E0.next u6 (fun _ _ h => h.elim)
 refine t_assign rfl rfl rfl (t_nil' (hK2 _ _ (c_seq fun K8 hK8 => (c_seq fun K9 hK9 => (c_region (t_assign rfl rfl rfl (t_nil' (hK9 _ _ (c_block (c_loop (γ := Nat × Option Addr × Nat × Nat × List Mt) (fun gg => [(0, .slice av vs.length cv), (1, .slice an ns.length cn), (5, .slice gg.2.1 gg.2.2.2.2.length gg.2.2.2.1), (6, .int .i64 (gg.1 : Int))]) (fun gg w => Upd (fun i => i = bk3) w4 w ∧ (gg.1 ≤ vs.length) ∧ (gg.2.2.2.2 = confI (vs.map HVoy.v) ns gg.1) ∧ (gg.2.2.2.2.length ≤ 240 * gg.1) ∧ (Acc encMt 3 40 bk3 w gg.2.1 gg.2.2.1 gg.2.2.2.1 gg.2.2.2.2)) (fun gg => vs.length - gg.1) (0, some ⟨bk3, 0, none⟩, bk3, 0, []) ⟨rfl, rfl, rfl, rfl, trivial⟩ ⟨Upd.refl _ _, (Nat.zero_le _), rfl, (Nat.zero_le _), (Acc.lit encMt 3 B5 (Nat.le_refl _))⟩ ?_))))))))))
 intro gg w11 hW K10 hK10
 obtain ⟨y, ao2, g2, c2, cs2⟩ := gg
 change WC _ _ _ _ _ _ [(0, .slice av vs.length cv), (1, .slice an ns.length cn), (5, .slice ao2 cs2.length c2), (6, .int .i64 (y : Int))] _
 change Upd (fun i => i = bk3) w4 w11 ∧ (y ≤ vs.length) ∧ (cs2 = confI (vs.map HVoy.v) ns y) ∧ (cs2.length ≤ 240 * y) ∧ (Acc encMt 3 40 bk3 w11 ao2 g2 c2 cs2) at hW
 obtain ⟨u12, I13, I14, I15, I16⟩ := hW
 have zu12 := u12.size
 have E17 := E7.next u12 (fun i hi (h : i = bk3) => show False by first | omega | assumption)
 have hy := I13; clear I13
 have hcs2 := I14; clear I14
 have hcl2 := I15; clear I15
 have hacc2 := I16; clear I16
 have lt_g2 := hacc2.lt
 refine c_seq fun K18 hK18 => (c_seq fun K19 hK19 => (c_region (t_move rfl rfl rfl (t_move rfl rfl rfl (t_len Tryz.underlying22 rfl rfl rfl rfl (t_cmp rfl rfl rfl rfl rfl (t_nil' (hK19 _ _ (c_condp rfl (fun g13 => ?_) (fun g13 => ?_))))))))))
 ·
  refine c_skip (hK18 _ _ (c_seq fun K20 hK20 => (c_block (c_seq fun K21 hK21 => (c_region (t_move rfl rfl rfl (t_ari rfl rfl rfl rfl rfl (by omega) (t_assign rfl rfl rfl (t_nil' (hK21 _ _ (c_block (c_loop (γ := Nat × Option Addr × Nat × Nat × List Mt) (fun gg => [(0, .slice av vs.length cv), (1, .slice an ns.length cn), (5, .slice gg.2.1 gg.2.2.2.2.length gg.2.2.2.1), (6, .int .i64 (y : Int)), (7, .int .i64 ((y : Int) + 1 + (gg.1 : Int)))]) (fun gg w => Upd (fun i => (i = g2 ∧ bk3 ≤ i)) w11 w ∧ (y + 1 + gg.1 ≤ vs.length) ∧ (gg.2.2.2.2 = cs2 ++ confRow (vs.map HVoy.v) ns y gg.1) ∧ (gg.2.2.2.2.length ≤ 240 * y + 20 * gg.1) ∧ (Acc encMt 3 40 bk3 w gg.2.1 gg.2.2.1 gg.2.2.2.1 gg.2.2.2.2) ∧ (gg.2.2.1 = g2 ∨ w11.heap.size ≤ gg.2.2.1)) (fun gg => vs.length - gg.1) (0, ao2, g2, c2, cs2) ⟨rfl, rfl, rfl, rfl, (congrArg some (congrArg (Value.int .i64) (by show (y : Int) + 1 = (y : Int) + 1 + ((0 : Nat) : Int); omega))), trivial⟩ ⟨Upd.refl _ _, (by show y + 1 + 0 ≤ vs.length; omega), (by simp [confRow]), (by show cs2.length ≤ 240 * y + 20 * 0; omega), hacc2, (.inl rfl)⟩ ?_))))))))))))
  intro gg w23 hW K22 hK22
  obtain ⟨z, ao3, g3, c3, cs3⟩ := gg
  change WC _ _ _ _ _ _ [(0, .slice av vs.length cv), (1, .slice an ns.length cn), (5, .slice ao3 cs3.length c3), (6, .int .i64 (y : Int)), (7, .int .i64 ((y : Int) + 1 + (z : Int)))] _
  change Upd (fun i => (i = g2 ∧ bk3 ≤ i)) w11 w23 ∧ (y + 1 + z ≤ vs.length) ∧ (cs3 = cs2 ++ confRow (vs.map HVoy.v) ns y z) ∧ (cs3.length ≤ 240 * y + 20 * z) ∧ (Acc encMt 3 40 bk3 w23 ao3 g3 c3 cs3) ∧ (g3 = g2 ∨ w11.heap.size ≤ g3) at hW
  obtain ⟨u24, I25, I26, I27, I28, I29⟩ := hW
  have zu24 := u24.size
  have E30 := E17.next u24 (fun i hi (h : (i = g2 ∧ bk3 ≤ i)) => show False by first | omega | assumption)
  have hz := I25; clear I25
  have hcs3 := I26; clear I26
  have hcl3 := I27; clear I27
  have hacc3 := I28; clear I28
  have hg3 := I29; clear I29
  have lt_g3 := hacc3.lt
  refine c_seq fun K31 hK31 => (c_seq fun K32 hK32 => (c_region (t_move rfl rfl rfl (t_move rfl rfl rfl (t_len Tryz.underlying22 rfl rfl rfl rfl (t_cmp rfl rfl rfl rfl rfl (t_nil' (hK32 _ _ (c_condp rfl (fun g21 => ?_) (fun g21 => ?_))))))))))
  ·
   refine c_skip (hK31 _ _ (c_seq fun K33 hK33 => (c_block (c_seq fun K34 hK34 => (c_region (t_assign rfl rfl rfl (t_nil' (hK34 _ _ (c_block (c_loop (γ := Nat × Option Addr × Nat × Nat × List Mt) (fun gg => [(0, .slice av vs.length cv), (1, .slice an ns.length cn), (5, .slice gg.2.1 gg.2.2.2.2.length gg.2.2.2.1), (6, .int .i64 (y : Int)), (7, .int .i64 ((y : Int) + 1 + (z : Int))), (8, .int .i64 (gg.1 : Int))]) (fun gg w => Upd (fun i => (i = g3 ∧ bk3 ≤ i)) w23 w ∧ (gg.1 ≤ ns.length) ∧ (gg.2.2.2.2 = cs3 ++ confK (vs.map HVoy.v) ns y (y + 1 + z) gg.1) ∧ (Acc encMt 3 40 bk3 w gg.2.1 gg.2.2.1 gg.2.2.2.1 gg.2.2.2.2) ∧ (gg.2.2.1 = g3 ∨ w23.heap.size ≤ gg.2.2.1)) (fun gg => ns.length - gg.1) (0, ao3, g3, c3, cs3) ⟨rfl, rfl, rfl, rfl, rfl, rfl, trivial⟩ ⟨Upd.refl _ _, (Nat.zero_le _), (by simp [confK]), hacc3, (.inl rfl)⟩ ?_))))))))))
   intro gg w36 hW K35 hK35
   obtain ⟨k, ao4, g4, c4, cs4⟩ := gg
   change WC _ _ _ _ _ _ [(0, .slice av vs.length cv), (1, .slice an ns.length cn), (5, .slice ao4 cs4.length c4), (6, .int .i64 (y : Int)), (7, .int .i64 ((y : Int) + 1 + (z : Int))), (8, .int .i64 (k : Int))] _
   change Upd (fun i => (i = g3 ∧ bk3 ≤ i)) w23 w36 ∧ (k ≤ ns.length) ∧ (cs4 = cs3 ++ confK (vs.map HVoy.v) ns y (y + 1 + z) k) ∧ (Acc encMt 3 40 bk3 w36 ao4 g4 c4 cs4) ∧ (g4 = g3 ∨ w23.heap.size ≤ g4) at hW
   obtain ⟨u37, I38, I39, I40, I41⟩ := hW
   have zu37 := u37.size
   have E42 := E30.next u37 (fun i hi (h : (i = g3 ∧ bk3 ≤ i)) => show False by first | omega | assumption)
   have hk := I38; clear I38
   have hcs4 := I39; clear I39
   have hacc4 := I40; clear I40
   have hg4 := I41; clear I41
   have lt_g4 := hacc4.lt
   refine c_seq fun K43 hK43 => (c_seq fun K44 hK44 => (c_region (t_move rfl rfl rfl (t_move rfl rfl rfl (t_len Tryz.underlying23 rfl rfl rfl rfl (t_cmp rfl rfl rfl rfl rfl (t_nil' (hK44 _ _ (c_condp rfl (fun g27 => ?_) (fun g27 => ?_))))))))))
   ·
    refine c_skip (hK43 _ _ (c_seq fun K45 hK45 => (c_block (c_seq fun K46 hK46 => ?_))))
    have hyv : y < vs.length := by omega
    have hzv : y + 1 + z < vs.length := by omega
    have hkj := okGo_of (hokv (nth vs y) (nth_mem hyv))
    have hki := okGo_of (hokv (nth vs (y + 1 + z)) (nth_mem hzv))
    have hnkr := hokn (nth ns k) (nth_mem (by omega))
    have he1 := hthr (nth vs y) (nth_mem hyv) (nth ns k) (nth_mem (by omega))
    have he2 := hthr (nth vs (y + 1 + z)) (nth_mem hzv) (nth ns k) (nth_mem (by omega))
    have h5 := @confK_len (vs.map HVoy.v) ns y (y + 1 + z) k
    have h6 := congrArg List.length hcs4
    rw [List.length_append] at h6
    refine WC.weak [(0, .slice av vs.length cv), (1, .slice an ns.length cn), (5, .slice ao4 cs4.length c4), (6, .int .i64 (y : Int)), (7, .int .i64 ((y : Int) + 1 + (z : Int))), (8, .int .i64 (k : Int))] ⟨rfl, rfl, rfl, rfl, rfl, rfl, trivial⟩ (c_drawn follows 13 [some (30, some (.slice av vs.length cv)), some (31, some (.int .i64 (y : Int))), some (32, some (.pointer (some ⟨bv, ov + y * 5, none⟩))), some (33, some (.agg #[.int .i64 ((nth vs y).v.st.lo), .int .i64 ((nth vs y).v.st.hi), .slice ((nth vs y).ao) (((nth vs y).v.runs).length) ((nth vs y).cap), .int .i64 ((nth vs y).v.len), .int .i64 ((nth vs y).v.wid)])), some (34, some (.slice av vs.length cv)), some (35, some (.int .i64 ((y : Int) + 1 + (z : Int)))), some (36, some (.pointer (some ⟨bv, ov + (y + 1 + z) * 5, none⟩))), some (37, some (.agg #[.int .i64 ((nth vs (y + 1 + z)).v.st.lo), .int .i64 ((nth vs (y + 1 + z)).v.st.hi), .slice ((nth vs (y + 1 + z)).ao) (((nth vs (y + 1 + z)).v.runs).length) ((nth vs (y + 1 + z)).cap), .int .i64 ((nth vs (y + 1 + z)).v.len), .int .i64 ((nth vs (y + 1 + z)).v.wid)])), some (38, some (.slice an ns.length cn)), some (39, some (.int .i64 (k : Int))), some (40, some (.pointer (some ⟨bn, on + k * 4, none⟩))), some (41, some (.agg #[.int .i64 ((nth ns k).frm), .int .i64 ((nth ns k).to), .int .i64 ((nth ns k).wid), .bool ((nth ns k).single)])), some (42, some (.bool (barsV (nth vs y).v (nth vs (y + 1 + z)).v (nth ns k))))] [[],[],[0,1],[2],[],[],[4,5],[6],[],[],[8,9],[10],[3,7,11]] (fun _ _ w => Upd (fun _ => False) w36 w) rfl rfl rfl (by kernel_rfl) (by kernel_rfl) (Upd.drew _).to ⟨?_, ?_, ?_, ?_, ?_, ?_, ?_, ?_, ?_, ?_, ?_, ?_, ?_, trivial⟩ ?_)
    · exact pz rfl rfl rfl rfl fun _ _ _ h => h
    · exact pz rfl rfl rfl rfl fun _ _ _ h => h
    ·
     intro D ρ w55 hcD hnD hdD hW
     have zhW := hW.size
     have E57 := E42.next hW (fun _ _ h => h.elim)
     refine ⟨_, kf_fr [30, 31], fun Lr => ?_⟩
     have i58 : y < vs.length := (by omega)
     refine t_index (j := y) Tryz.underlying22 Tryz.sizeOf45 rfl rfl rfl rfl ((hs.keep E57 (fun _ h => h)).addr (by omega)) rfl i58 ?_
     exact dz rfl hW
    ·
     intro D ρ w59 hcD hnD hdD hW
     have zhW := hW.size
     have E61 := E42.next hW (fun _ _ h => h.elim)
     refine ⟨_, kf_fr [32], fun Lr => ?_⟩
     refine t_loadN (vs := [.int .i64 ((nth vs y).v.st.lo), .int .i64 ((nth vs y).v.st.hi), .slice ((nth vs y).ao) (((nth vs y).v.runs).length) ((nth vs y).cap), .int .i64 ((nth vs y).v.len), .int .i64 ((nth vs y).v.wid)]) Tryz.isAgg45 Tryz.sizeOf45 rfl rfl rfl (((hs.keep E61 (fun _ h => h)).at_ y (by omega)).sub 0 5) rfl ?_
     exact dz rfl hW
    · exact pz rfl rfl rfl rfl fun _ _ _ h => h
    · exact pz rfl rfl rfl rfl fun _ _ _ h => h
    ·
     intro D ρ w62 hcD hnD hdD hW
     have zhW := hW.size
     have E64 := E42.next hW (fun _ _ h => h.elim)
     refine ⟨_, kf_fr [34, 35], fun Lr => ?_⟩
     have i65 : (y + 1 + z) < vs.length := (by omega)
     refine t_index (j := (y + 1 + z)) Tryz.underlying22 Tryz.sizeOf45 rfl rfl rfl rfl ((hs.keep E64 (fun _ h => h)).addr (by omega)) (by omega) i65 ?_
     exact dz rfl hW
    ·
     intro D ρ w66 hcD hnD hdD hW
     have zhW := hW.size
     have E68 := E42.next hW (fun _ _ h => h.elim)
     refine ⟨_, kf_fr [36], fun Lr => ?_⟩
     refine t_loadN (vs := [.int .i64 ((nth vs (y + 1 + z)).v.st.lo), .int .i64 ((nth vs (y + 1 + z)).v.st.hi), .slice ((nth vs (y + 1 + z)).ao) (((nth vs (y + 1 + z)).v.runs).length) ((nth vs (y + 1 + z)).cap), .int .i64 ((nth vs (y + 1 + z)).v.len), .int .i64 ((nth vs (y + 1 + z)).v.wid)]) Tryz.isAgg45 Tryz.sizeOf45 rfl rfl rfl (((hs.keep E68 (fun _ h => h)).at_ (y + 1 + z) (by omega)).sub 0 5) rfl ?_
     exact dz rfl hW
    · exact pz rfl rfl rfl rfl fun _ _ _ h => h
    · exact pz rfl rfl rfl rfl fun _ _ _ h => h
    ·
     intro D ρ w69 hcD hnD hdD hW
     have zhW := hW.size
     have E71 := E42.next hW (fun _ _ h => h.elim)
     refine ⟨_, kf_fr [38, 39], fun Lr => ?_⟩
     have i72 : k < ns.length := (by omega)
     refine t_index (j := k) Tryz.underlying23 Tryz.sizeOf36 rfl rfl rfl rfl ((hn.keep E71 (fun _ h => h)).addr (by omega)) rfl i72 ?_
     exact dz rfl hW
    ·
     intro D ρ w73 hcD hnD hdD hW
     have zhW := hW.size
     have E75 := E42.next hW (fun _ _ h => h.elim)
     refine ⟨_, kf_fr [40], fun Lr => ?_⟩
     refine t_loadN (vs := [.int .i64 ((nth ns k).frm), .int .i64 ((nth ns k).to), .int .i64 ((nth ns k).wid), .bool ((nth ns k).single)]) Tryz.isAgg36 Tryz.sizeOf36 rfl rfl rfl (((hn.keep E75 (fun _ h => h)).at_ k (by omega)).sub 0 4) rfl ?_
     exact dz rfl hW
    ·
     intro D ρ w76 hcD hnD hdD hW
     have zhW := hW.size
     have E78 := E42.next hW (fun _ _ h => h.elim)
     refine ⟨_, kf_fr [33, 37, 41], fun Lr => ?_⟩
     refine t_call (vs := [.agg #[.int .i64 ((nth vs y).v.st.lo), .int .i64 ((nth vs y).v.st.hi), .slice ((nth vs y).ao) (((nth vs y).v.runs).length) ((nth vs y).cap), .int .i64 ((nth vs y).v.len), .int .i64 ((nth vs y).v.wid)], .agg #[.int .i64 ((nth vs (y + 1 + z)).v.st.lo), .int .i64 ((nth vs (y + 1 + z)).v.st.hi), .slice ((nth vs (y + 1 + z)).ao) (((nth vs (y + 1 + z)).v.runs).length) ((nth vs (y + 1 + z)).cap), .int .i64 ((nth vs (y + 1 + z)).v.len), .int .i64 ((nth vs (y + 1 + z)).v.wid)], .agg #[.int .i64 ((nth ns k).frm), .int .i64 ((nth ns k).to), .int .i64 ((nth ns k).wid), .bool ((nth ns k).single)]]) own27 rfl rfl rfl rfl (rBars_c (nth vs y).v (nth vs y).ao (nth vs y).b (nth vs y).o (nth vs y).cap (nth vs (y + 1 + z)).v (nth vs (y + 1 + z)).ao (nth vs (y + 1 + z)).b (nth vs (y + 1 + z)).o (nth vs (y + 1 + z)).cap (nth ns k) _ ((hruns (nth vs y) (nth_mem (by omega))).keep E78 (fun _ h => h)) ((hruns (nth vs (y + 1 + z)) (nth_mem (by omega))).keep E78 (fun _ h => h)) hkj hki hnkr he1 he2) (fun v79 w80 r82 => ?_)
     obtain ⟨rfl, u81⟩ := r82
     have zu81 := u81.size
     exact dz rfl (hW.next u81 (fun _ _ h => h.elim))
    intro ρ w84 hW
    have u85 : Upd (fun _ => False) w36 w84 := hW
    have zu85 := u85.size
    refine QK.weak [(0, .slice av vs.length cv), (1, .slice an ns.length cn), (5, .slice ao4 cs4.length c4), (6, .int .i64 (y : Int)), (7, .int .i64 ((y : Int) + 1 + (z : Int))), (8, .int .i64 (k : Int)), (42, .bool (barsV (nth vs y).v (nth vs (y + 1 + z)).v (nth ns k)))] ⟨rfl, rfl, rfl, rfl, rfl, rfl, rfl, trivial⟩ (hK46 _ _ (c_cond rfl (fun g42 => ?_) (fun g42 => ?_)))
    ·
     refine c_region (t_move rfl rfl rfl (t_move rfl rfl rfl (t_move rfl rfl rfl (t_move rfl rfl rfl (t_build (ps := [(0, .int .i64 (y : Int)), (1, .int .i64 ((y : Int) + 1 + (z : Int))), (2, .int .i64 (k : Int))]) (v := .agg #[.int .i64 (y : Int), .int .i64 ((y : Int) + 1 + (z : Int)), .int .i64 (k : Int)]) rfl rfl ⟨rfl, rfl⟩ (fun w => by kernel_rfl) (t_bslice (ps := [(0, .agg #[.int .i64 (y : Int), .int .i64 ((y : Int) + 1 + (z : Int)), .int .i64 (k : Int)])]) (cs := [.int .i64 (y : Int), .int .i64 ((y : Int) + 1 + (z : Int)), .int .i64 (k : Int)]) (e := 40) rfl rfl ⟨rfl, rfl⟩ (fun w => by kernel_rfl) (fun bk87 w88 ebk87 sbk87 B89 u90 => ?_)))))))
     have zu90 := u90.size
     have D92 := ((hacc4.keep u85 (fun _ h => h)).keep u90 (fun _ h => h))
     refine t_append (z := .agg #[.int .i64 0, .int .i64 0, .int .i64 0]) (bytes := 24) (k := 3) (base := bk3) (⟨y, y + 1 + z, k⟩ : Mt) Tryz.underlying30 (by kernel_rfl) rfl (by decide) (fun _ => rfl) (by intro x; simp [encMt, Value.oneCell']) rfl rfl rfl rfl D92 B89 (by omega) (by omega) (by decide) (fun ao93 gb94 cp95 w96 A97 u98 gegb94 lngb94 => ?_)
     have zu98 := u98.size
     have lt_gb94 := A97.lt
     refine t_assign rfl rfl rfl (t_nil' (hK45 _ _ (c_region (t_move rfl rfl rfl (t_ari rfl rfl rfl rfl rfl (by omega) (t_assign rfl rfl rfl (t_nil' ?_)))))))
     exact hK35 (k + 1, ao93, gb94, cp95, (cs4 ++ [(⟨y, y + 1 + z, k⟩ : Mt)])) _ _ (by show ns.length - (k + 1) < ns.length - k; omega) ⟨rfl, rfl, rfl, rfl, rfl, rfl, trivial⟩ ⟨(((u37.next u85 (fun _ _ h => h.elim)).next u90 (fun _ _ h => h.elim)).next u98 (fun i hi (h : (i = g4 ∧ bk3 ≤ i)) => show (i = g3 ∧ bk3 ≤ i) by first | omega | assumption)), (by show (k + 1) ≤ ns.length; omega), (by rw [confK_succ, hcs4, nth_mapv, nth_mapv, if_pos g42]; simp), A97, (by show gb94 = g3 ∨ w23.heap.size ≤ gb94; omega)⟩
    ·
     refine c_skip (hK45 _ _ (c_region (t_move rfl rfl rfl (t_ari rfl rfl rfl rfl rfl (by omega) (t_assign rfl rfl rfl (t_nil' ?_))))))
     have D100 := (hacc4.keep u85 (fun _ h => h))
     exact hK35 (k + 1, ao4, g4, c4, cs4) _ _ (by show ns.length - (k + 1) < ns.length - k; omega) ⟨rfl, rfl, rfl, rfl, rfl, rfl, trivial⟩ ⟨(u37.next u85 (fun _ _ h => h.elim)), (by show (k + 1) ≤ ns.length; omega), (by rw [confK_succ, hcs4, nth_mapv, nth_mapv, if_neg (by simpa using g42)]; simp), D100, (by show g4 = g3 ∨ w23.heap.size ≤ g4; omega)⟩
   ·
    refine c_exit (hK33 _ _ (c_region (t_move rfl rfl rfl (t_ari rfl rfl rfl rfl rfl (by omega) (t_assign rfl rfl rfl (t_nil' ?_))))))
    exact hK22 (z + 1, ao4, g4, c4, cs4) _ _ (by show vs.length - (z + 1) < vs.length - z; omega) ⟨rfl, rfl, rfl, rfl, (congrArg some (congrArg (Value.int .i64) (by show (y : Int) + 1 + (z : Int) + 1 = (y : Int) + 1 + ((z + 1 : Nat) : Int); omega))), trivial⟩ ⟨(u24.next u37 (fun i hi (h : (i = g3 ∧ bk3 ≤ i)) => show (i = g2 ∧ bk3 ≤ i) by first | omega | assumption)), (by show y + 1 + (z + 1) ≤ vs.length; omega), (by rw [hcs4, hcs3, confRow_succ, List.append_assoc, show k = ns.length from by omega]; rfl), (by have h5 := @confK_len (vs.map HVoy.v) ns y (y + 1 + z) k; have h6 := congrArg List.length hcs4; rw [List.length_append] at h6; show cs4.length ≤ 240 * y + 20 * (z + 1); omega), hacc4, (by show g4 = g2 ∨ w11.heap.size ≤ g4; omega)⟩
  ·
   refine c_exit (hK20 _ _ (c_region (t_move rfl rfl rfl (t_ari rfl rfl rfl rfl rfl (by omega) (t_assign rfl rfl rfl (t_nil' ?_))))))
   exact hK10 (y + 1, ao3, g3, c3, cs3) _ _ (by show vs.length - (y + 1) < vs.length - y; omega) ⟨rfl, rfl, rfl, rfl, trivial⟩ ⟨(u12.next u24 (fun i hi (h : (i = g2 ∧ bk3 ≤ i)) => show i = bk3 by first | omega | assumption)), (by show (y + 1) ≤ vs.length; omega), (by rw [hcs3, hcs2, confI_succ, List.length_map, show z = vs.length - (y + 1) from by omega]), (by show cs3.length ≤ 240 * (y + 1); omega), hacc3⟩
 ·
  refine c_exit (hK8 _ _ (c_seq fun K101 hK101 => (c_region (t_move rfl rfl rfl (t_assign rfl rfl rfl (t_nil' (hK101 _ _ (c_ret (f_ret1 (v := .slice ao2 cs2.length c2) Tryz.results11 rfl ?_)))))))))
  have hyv : y = vs.length := by omega
  have hcc : cs2 = confL (vs.map HVoy.v) ns := by rw [hcs2, hyv, ← confI_all, List.length_map]
  exact ⟨⟨_, _, _, by rw [← hcc], by rw [← hcc]; exact (hacc2.sl (fun _ => rfl))⟩, E17⟩


theorem ConfU_c (us : List HVoy) (ao : Option Addr) (b cap : Nat) (ns : List Nar) (an : Option Addr) (bn on cn : Nat) (vl : List Voy) (w0 : World) (hm : us.map HVoy.v = vl) (hs : Sl encHVoy 5 w0 ao b 0 us) (hruns : ∀ x ∈ us, Sl encRun 6 w0 x.ao x.b x.o x.v.runs) (hn : Sl encNar 4 w0 an bn on ns) (hl : vl.length ≤ 1000000) (hrl : ∀ v ∈ vl, v.runs.length ≤ 1000000) (hnl : ns.length ≤ 1000000) :
    CallsV Tryz.prog 8 [.slice ao us.length cap, .slice an ns.length cn] w0 (fun v w' => (∃ ms e ao b cap, v = .tuple #[.slice ao ms.length cap, .int .i64 e] ∧ Sl encMt 3 w' ao b 0 ms ∧ e = OpenE vl ns ∧ (e ≠ 0 → ms = []) ∧ (e = 0 → ms = confL vl ns)) ∧ Ext w0 w') := by
  subst hm
  refine (Conflicts_c us ns ao an b 0 bn on cap cn w0 hs hruns (fun x hx => hrl x.v (List.mem_map.2 ⟨x, hx, rfl⟩)) hn (by rw [List.length_map] at hl; exact hl) hnl).mono ?_
  rintro v w' ⟨h, u⟩
  refine ⟨?_, u⟩
  rcases h with ⟨h1, rfl⟩ | ⟨h1, ao, b, cap, rfl, h2⟩
  · exact ⟨[], _, none, 0, 0, rfl, Sl.nil _ _ _ _ _ _, rfl, fun _ => rfl, fun h => absurd h h1⟩
  · exact ⟨_, _, ao, b, cap, rfl, h2, h1.symm, fun h => absurd rfl h, fun _ => rfl⟩


theorem lrg_no {vs : List HVoy} {ns : List Nar} (h : lrgB vs ns = false) : (∀ x ∈ vs, x.v.runs.length ≤ 25) ∧ vs.length ≤ 14 ∧ ns.length ≤ 25 := by
  unfold lrgB at h
  simp only [Bool.or_eq_false_iff, decide_eq_false_iff_not, List.any_eq_false, decide_eq_true_eq] at h
  exact ⟨fun x hx => by have := h.1.1 x hx; omega, by omega, by omega⟩
theorem open_len {vl : List Voy} {ns : List Nar} (h : OpenE vl ns = 0) : vl.length ≤ 12 ∧ ns.length ≤ 20 := by
  unfold OpenE at h
  split at h
  · cases h
  · omega
theorem thr_of_open {vl : List Voy} {ns : List Nar} (h : OpenE vl ns = 0) : (∀ v ∈ vl, okVoy v = true) ∧ (∀ n ∈ ns, okNar n = true) ∧ ∀ v ∈ vl, ∀ n ∈ ns, thrE v n = 0 := by
  unfold OpenE at h
  split at h
  · cases h
  · split at h
    · cases h
    · rename_i h1
      rw [Bool.or_eq_true, not_or] at h1
      have hv : ∀ v ∈ vl, okVoy v = true := fun v hv => okVoy_of (fun hc => h1.1 (List.any_eq_true.2 ⟨v, hv, decide_eq_true hc⟩))
      have hn : ∀ n ∈ ns, okNar n = true := fun n hn => by
        cases hc : okNar n
        · exact absurd (List.any_eq_true.2 ⟨n, hn, by simp [hc]⟩) h1.2
        · rfl
      refine ⟨hv, hn, ?_⟩
      have o1 : ∀ (v : Voy) (l : List Nar), opE1 v l = 0 → ∀ n ∈ l, thrE v n = 0 := by
        intro v l
        induction l with
        | nil => intro _ n hn; cases hn
        | cons a l ih =>
          intro h n hn
          unfold opE1 at h
          split at h
          · rename_i hz; rcases List.mem_cons.1 hn with rfl | hn
            · exact hz
            · exact ih h n hn
          · rename_i hz; exact absurd h hz
      have o2 : ∀ l : List Voy, opE2 ns l = 0 → ∀ v ∈ l, opE1 v ns = 0 := by
        intro l
        induction l with
        | nil => intro _ v hv; cases hv
        | cons a l ih =>
          intro h v hv
          unfold opE2 at h
          split at h
          · rename_i hz; rcases List.mem_cons.1 hv with rfl | hv
            · exact hz
            · exact ih h v hv
          · rename_i hz; exact absurd h hz
      exact fun v hv n hn => o1 v ns (o2 vl h v hv) n hn

theorem eqIn36 (n : Nat) (a0 : Int) (a1 : Int) (a2 : Int) (a3 : Bool) (b0 : Int) (b1 : Int) (b2 : Int) (b3 : Bool) (w : World) : (Op.equalIn (n + 2) 36 (.agg #[.int .i64 a0, .int .i64 a1, .int .i64 a2, .bool a3]) (.agg #[.int .i64 b0, .int .i64 b1, .int .i64 b2, .bool b3])).run Tryz.prog w = .ok (decide (a0 = b0) && decide (a1 = b1) && decide (a2 = b2) && decide (a3 = b3)) w := by
  have hS : Tryz.prog.underlying 36 = some (.struct (Tryz.prog.fieldsOf 36)) := by kernel_rfl
  have hp : Tryz.prog.stoodInHeld 36 = false := by kernel_rfl
  have p0 : ∀ (a0 : Int) (a1 : Int) (a2 : Int) (a3 : Bool), (part 3 #[.int .i64 a0, .int .i64 a1, .int .i64 a2, .bool a3] 0).run Tryz.prog w = .ok (.int .i64 a0) w := fun _ _ _ _ => by simp [part, Tryz.isAgg3]
  have p1 : ∀ (a0 : Int) (a1 : Int) (a2 : Int) (a3 : Bool), (part 3 #[.int .i64 a0, .int .i64 a1, .int .i64 a2, .bool a3] 1).run Tryz.prog w = .ok (.int .i64 a1) w := fun _ _ _ _ => by simp [part, Tryz.isAgg3]
  have p2 : ∀ (a0 : Int) (a1 : Int) (a2 : Int) (a3 : Bool), (part 3 #[.int .i64 a0, .int .i64 a1, .int .i64 a2, .bool a3] 2).run Tryz.prog w = .ok (.int .i64 a2) w := fun _ _ _ _ => by simp [part, Tryz.isAgg3]
  have p3 : ∀ (a0 : Int) (a1 : Int) (a2 : Int) (a3 : Bool), (part 4 #[.int .i64 a0, .int .i64 a1, .int .i64 a2, .bool a3] 3).run Tryz.prog w = .ok (.bool a3) w := fun _ _ _ _ => by simp [part, Tryz.isAgg4]
  have e3 := fun a b w => equal_i64 Tryz.underlying3 (n + 0) a b w
  have e4 := fun a b w => equal_bool Tryz.underlying4 (n + 0) a b w
  rw [run_equalIn_struct w (n + 1) 36 _ _ hS hp]
  simp only [Program.fieldsOf, Tryz.underlying36]
  simp only [Op.eqFields, Sem.run_bind, Sem.run_ite, p0, p1, p2, p3, e3, e4, Result.andThen_ok]
  by_cases h0 : a0 = b0 <;> by_cases h1 : a1 = b1 <;> by_cases h2 : a2 = b2 <;> by_cases h3 : a3 = b3 <;> simp [h0, h1, h2, h3, p0, p1, p2, p3, e3, e4]
theorem eqIn40 (n : Nat) (a0 : Int) (a1 : Int) (a2 : Int) (b0 : Int) (b1 : Int) (b2 : Int) (w : World) : (Op.equalIn (n + 2) 40 (.agg #[.int .i64 a0, .int .i64 a1, .int .i64 a2]) (.agg #[.int .i64 b0, .int .i64 b1, .int .i64 b2])).run Tryz.prog w = .ok (decide (a0 = b0) && decide (a1 = b1) && decide (a2 = b2)) w := by
  have hS : Tryz.prog.underlying 40 = some (.struct (Tryz.prog.fieldsOf 40)) := by kernel_rfl
  have hp : Tryz.prog.stoodInHeld 40 = false := by kernel_rfl
  have p0 : ∀ (a0 : Int) (a1 : Int) (a2 : Int), (part 3 #[.int .i64 a0, .int .i64 a1, .int .i64 a2] 0).run Tryz.prog w = .ok (.int .i64 a0) w := fun _ _ _ => by simp [part, Tryz.isAgg3]
  have p1 : ∀ (a0 : Int) (a1 : Int) (a2 : Int), (part 3 #[.int .i64 a0, .int .i64 a1, .int .i64 a2] 1).run Tryz.prog w = .ok (.int .i64 a1) w := fun _ _ _ => by simp [part, Tryz.isAgg3]
  have p2 : ∀ (a0 : Int) (a1 : Int) (a2 : Int), (part 3 #[.int .i64 a0, .int .i64 a1, .int .i64 a2] 2).run Tryz.prog w = .ok (.int .i64 a2) w := fun _ _ _ => by simp [part, Tryz.isAgg3]
  have e3 := fun a b w => equal_i64 Tryz.underlying3 (n + 0) a b w
  rw [run_equalIn_struct w (n + 1) 40 _ _ hS hp]
  simp only [Program.fieldsOf, Tryz.underlying40]
  simp only [Op.eqFields, Sem.run_bind, Sem.run_ite, p0, p1, p2, e3, Result.andThen_ok]
  by_cases h0 : a0 = b0 <;> by_cases h1 : a1 = b1 <;> by_cases h2 : a2 = b2 <;> simp [h0, h1, h2, p0, p1, p2, e3]

set_option maxHeartbeats 1000000 in
theorem TowConflicts_c (vs : List HVoy) (av : Option Addr) (bv ov cv : Nat) (ns : List Nar) (an : Option Addr) (bn on cn : Nat) (w0 : World) (hs : Sl encHVoy 5 w0 av bv ov vs) (hruns : ∀ x ∈ vs, Sl encRun 6 w0 x.ao x.b x.o x.v.runs) (hn : Sl encNar 4 w0 an bn on ns) (hvl : vs.length ≤ 9223372036854775807) (hnl : ns.length ≤ 9223372036854775807) :
    CallsV Tryz.prog 3 [.agg #[.slice av vs.length cv, .slice an ns.length cn]] w0 (fun v w' => v = .bool true ∧ Ext w0 w') := by
 have E0 := Upd.refl (fun _ => False) w0
 refine f_enter (N := 95) Tryz.func3 rfl rfl rfl ?_
 change WC _ _ _ _ _ _ [(0, .agg #[.slice av vs.length cv, .slice an ns.length cn])] _
 refine c_seq fun K1 hK1 => (c_region (t_box (cs := [.slice av vs.length cv, .slice an ns.length cn]) rfl rfl rfl rfl (fun bk2 w3 ebk2 sbk2 B4 u5 => ?_)))
 have zu5 := u5.size
 have E6 := E0.next u5 (fun _ _ h => h.elim)
 refine t_assign rfl rfl rfl (t_nil' (hK1 _ _ (c_seq fun K7 hK7 => (c_seq fun K8 hK8 => (c_region (t_loadN (vs := [.slice av vs.length cv, .slice an ns.length cn]) Tryz.isAgg25 Tryz.sizeOf25 rfl rfl rfl (B4.at.sub 0 2) rfl (t_call (vs := [.agg #[.slice av vs.length cv, .slice an ns.length cn]]) own4 rfl rfl rfl rfl (large_c vs av bv ov cv ns an bn on cn _ (hs.keep E6 (fun _ h => h)) (fun x hx => (hruns x hx).keep E6 (fun _ h => h)) (hn.keep E6 (fun _ h => h)) (by omega) (by omega)) (fun v9 w10 r12 => ?_))))))))
 obtain ⟨rfl, u11⟩ := r12
 have zu11 := u11.size
 have E13 := E6.next u11 (fun _ _ h => h.elim)
 refine t_nil' (hK8 _ _ (c_cond rfl (fun g12 => ?_) (fun g12 => ?_)))
 ·
  refine c_seq fun K14 hK14 => (c_region (t_call (vs := []) own5 rfl rfl rfl rfl (known_c _) (fun v15 w16 r18 => ?_)))
  obtain ⟨rfl, u17⟩ := r18
  have zu17 := u17.size
  have E19 := E13.next u17 (fun _ _ h => h.elim)
  refine t_assign rfl rfl rfl (t_nil' (hK14 _ _ (c_ret (f_ret1 (v := .bool true) Tryz.results3 rfl ?_))))
  exact ⟨rfl, E19⟩
 ·
  have hno : lrgB vs ns = false := by simpa using g12
  have hlr := lrg_no hno
  have hrl : ∀ x ∈ vs, x.v.runs.length ≤ 1000000 := fun x hx => Nat.le_trans (hlr.1 x hx) (by decide)
  have hvl2 : (vs.map HVoy.v).length ≤ 1000000 := by rw [List.length_map]; omega
  have hrl2 : ∀ v ∈ (vs.map HVoy.v), v.runs.length ≤ 1000000 := fun v hv => by obtain ⟨x, hx, rfl⟩ := List.mem_map.1 hv; exact hrl x hx
  refine c_skip (hK7 _ _ (c_seq fun K20 hK20 => ?_))
  have B21 := (B4.keep u11 (fun h => h))
  refine WC.weak [(1, .pointer (some ⟨bk2, 0, none⟩))] ⟨rfl, trivial⟩ (c_drawn follows 8 [some (14, some (.pointer (some ⟨bk2, 0, none⟩))), some (15, some (.slice av vs.length cv)), some (16, none), some (17, some (.pointer (some ⟨bk2, 1, none⟩))), some (18, some (.slice an ns.length cn)), some (19, none), some (3, none), some (4, none)] [[],[0],[1],[],[3],[4,2],[2,5,0,1,2],[5,6,0,1,2,3,4,5,6]] (fun D ρ w => Upd (fun _ => False) w10 w ∧ (D 2 = true → ∃ us aoU bU cpU, ρ 2 = .slice aoU us.length cpU ∧ (us.map HVoy.v = vs.map HVoy.v ∧ Sl encHVoy 5 w aoU bU 0 us ∧ ∀ x ∈ us, Sl encRun 6 w x.ao x.b x.o x.v.runs) ∧ (D 6 = true → ρ 6 = .slice aoU us.length cpU)) ∧ (D 5 = true → ∃ aoN bN cpN, ρ 5 = .slice aoN ns.length cpN ∧ Sl encNar 4 w aoN bN 0 ns ∧ (D 7 = true → ρ 7 = .slice aoN ns.length cpN))) rfl rfl rfl (by kernel_rfl) (by kernel_rfl) ⟨(Upd.drew _).to, (fun h => by cases h), (fun h => by cases h)⟩ ⟨?_, ?_, ?_, ?_, ?_, ?_, ?_, ?_, trivial⟩ ?_)
  · exact pzf Tryz.underlying25 rfl Tryz.sizeOf22 (0) rfl rfl rfl rfl rfl fun _ _ _ h => h
  · exact fun D ρ w33 hcD hnD hdD hW => ⟨_, kf_fr [14], fun Lr => t_load Tryz.isAgg22 rfl rfl rfl ((B21.keep hW.1 (fun h => h)).get rfl) (dz rfl hW)⟩
  ·
   intro D ρ w39 hcD hnD hdD hW
   obtain ⟨u40, F41, F42⟩ := hW
   have zu40 := u40.size
   have E43 := E13.next u40 (fun _ _ h => h.elim)
   refine ⟨_, kf_fr [15], fun Lr => ?_⟩
   refine t_call (vs := [.slice av vs.length cv]) own6 rfl rfl rfl rfl (all_c vs av bv ov cv _ (hs.keep E43 (fun _ h => h)) (fun x hx => (hruns x hx).keep E43 (fun _ h => h)) (by omega) hrl) (fun v44 w45 r47 => ?_)
   obtain ⟨⟨us, aoU, bU, cpU, rfl, hU⟩, u46⟩ := r47
   have zu46 := u46.size
   exact dzn rfl ⟨(u40.next u46 (fun _ _ h => h.elim)), (fun _ => ⟨us, aoU, bU, cpU, rfl, hU, (fun h => absurd ((hcD.late 6 hnD rfl).symm.trans h) (by decide))⟩), (fun h => by obtain ⟨aoN, bN, cpN, e, hB, k7_⟩ := F42 h; exact ⟨aoN, bN, cpN, e, (hB.keep u46 (fun _ h => h)), k7_⟩)⟩
  · exact pzf Tryz.underlying25 rfl Tryz.sizeOf23 (1) rfl rfl rfl rfl rfl fun _ _ _ h => h
  · exact fun D ρ w49 hcD hnD hdD hW => ⟨_, kf_fr [17], fun Lr => t_load Tryz.isAgg23 rfl rfl rfl ((B21.keep hW.1 (fun h => h)).get rfl) (dz rfl hW)⟩
  ·
   intro D ρ w55 hcD hnD hdD hW
   obtain ⟨u56, F57, F58⟩ := hW
   have zu56 := u56.size
   have E59 := E13.next u56 (fun _ _ h => h.elim)
   refine ⟨_, kf_fr [18], fun Lr => ?_⟩
   refine t_call (vs := [.slice an ns.length cn]) own7 rfl rfl rfl rfl (narrows_c ns an bn on cn _ (hn.keep E59 (fun _ h => h)) (by omega)) (fun v60 w61 r63 => ?_)
   obtain ⟨⟨aoN, bN, cpN, rfl, hN, _⟩, u62⟩ := r63
   have zu62 := u62.size
   exact dzn rfl ⟨(u56.next u62 (fun _ _ h => h.elim)), (fun h => by obtain ⟨us, aoU, bU, cpU, e, hB, k6_⟩ := F57 h; exact ⟨us, aoU, bU, cpU, e, ⟨hB.1, (hB.2.1.keep u62 (fun _ h => h)), fun x hx => ((hB.2.2 x hx).keep u62 (fun _ h => h))⟩, k6_⟩), (fun _ => ⟨aoN, bN, cpN, rfl, hN, (fun h => absurd ((hcD.late 7 hnD rfl).symm.trans h) (by decide))⟩)⟩
  ·
   intro D ρ w65 hcD hnD hdD hW
   obtain ⟨u66, F67, F68⟩ := hW
   have zu66 := u66.size
   obtain ⟨us, aoU, bU, cpU, e70, H71, k72⟩ := F67 (hdD 2 rfl)
   refine ⟨[(16, .slice aoU us.length cpU)], ⟨fi 2 rfl rfl e70.symm, trivial⟩, fun Lr => ?_⟩
   refine t_assign rfl rfl rfl ?_
   exact dzn rfl ⟨u66, (fun _ => ⟨us, aoU, bU, cpU, e70, H71, (fun _ => rfl)⟩), F68⟩
  ·
   intro D ρ w73 hcD hnD hdD hW
   obtain ⟨u74, F75, F76⟩ := hW
   have zu74 := u74.size
   obtain ⟨aoN, bN, cpN, e78, H79, k80⟩ := F76 (hdD 5 rfl)
   refine ⟨[(19, .slice aoN ns.length cpN)], ⟨fi 5 rfl rfl e78.symm, trivial⟩, fun Lr => ?_⟩
   refine t_assign rfl rfl rfl ?_
   exact dzn rfl ⟨u74, F75, (fun _ => ⟨aoN, bN, cpN, e78, H79, (fun _ => rfl)⟩)⟩
  intro ρ w81 hW
  obtain ⟨u82, F83, F84⟩ := hW
  have zu82 := u82.size
  have E85 := E13.next u82 (fun _ _ h => h.elim)
  obtain ⟨us, aoU, bU, cpU, e86, H87, k88⟩ := F83 rfl
  obtain ⟨aoN, bN, cpN, e89, H90, k91⟩ := F84 rfl
  refine QK.weak [(1, .pointer (some ⟨bk2, 0, none⟩)), (3, .slice aoU us.length cpU), (4, .slice aoN ns.length cpN)] ⟨rfl, (look_nd (j := 6) rfl rfl rfl (k88 rfl)), (look_nd (j := 7) rfl rfl rfl (k91 rfl)), trivial⟩ (hK20 _ _ (c_seq fun K92 hK92 => (c_region (t_move rfl rfl rfl (t_move rfl rfl rfl (t_call (vs := [.slice aoU us.length cpU, .slice aoN ns.length cpN]) own8 rfl rfl rfl rfl (ConfU_c us aoU bU cpU ns aoN bN 0 cpN (vs.map HVoy.v) _ H87.1 H87.2.1 (show ∀ x ∈ us, Sl encRun 6 w81 x.ao x.b x.o x.v.runs from H87.2.2) H90 hvl2 hrl2 (by omega)) (fun v93 w94 r96 => ?_)))))))
  obtain ⟨⟨ms, eA, aoA, bA, cpA, rfl, hHA, heA, hms1, hms2⟩, u95⟩ := r96
  have zu95 := u95.size
  have E97 := E85.next u95 (fun _ _ h => h.elim)
  refine t_move rfl rfl rfl (t_extract (vs := [.slice aoA ms.length cpA, .int .i64 eA]) rfl rfl rfl rfl (t_extract (vs := [.slice aoA ms.length cpA, .int .i64 eA]) rfl rfl rfl rfl (t_assign rfl rfl rfl (t_assign rfl rfl rfl (t_nil' (hK92 _ _ (c_seq fun K98 hK98 => (c_seq fun K99 hK99 => (c_region (t_move rfl rfl rfl (t_field Tryz.underlying25 rfl Tryz.sizeOf22 (0) rfl rfl rfl rfl ?_)))))))))))
  have B100 := ((B21.keep u82 (fun h => h)).keep u95 (fun h => h))
  refine t_load Tryz.isAgg22 rfl rfl rfl (B100.get rfl) ?_
  have D101 := (H87.2.1.keep u95 (fun _ h => h))
  have D102 := (fun x hx => ((show ∀ x ∈ us, Sl encRun 6 w81 x.ao x.b x.o x.v.runs from H87.2.2) x hx).keep u95 (fun _ h => h))
  refine t_call (vs := [.slice aoU us.length cpU, .slice av vs.length cv]) own9 rfl rfl rfl rfl (unchanged_c us vs _ _ _ _ _ _ _ _ _ D101 (hs.keep E97 (fun _ h => h)) D102 (fun x hx => (hruns x hx).keep E97 (fun _ h => h)) (by have := congrArg List.length H87.1; simpa using this) (fun i hi => by have := congrArg (fun l => nth l i) H87.1; simpa [nth_mapv] using this) (by have := congrArg List.length H87.1; simp at this; omega) (fun x hx => hrl2 x.v (by rw [← H87.1]; exact List.mem_map.2 ⟨x, hx, rfl⟩))) (fun v103 w104 r106 => ?_)
  obtain ⟨rfl, u105⟩ := r106
  have zu105 := u105.size
  have E107 := E97.next u105 (fun _ _ h => h.elim)
  refine t_not rfl rfl rfl (t_nil' (hK99 _ _ (c_cond_f rfl (c_skip (hK98 _ _ (c_seq fun K108 hK108 => (c_seq fun K109 hK109 => (c_region (t_assign rfl rfl rfl (t_nil' (hK109 _ _ (c_block (c_loop (γ := Nat) (fun k => [(1, .pointer (some ⟨bk2, 0, none⟩)), (4, .slice aoN ns.length cpN), (5, .slice aoA ms.length cpA), (6, .int .i64 eA), (7, .int .i64 (k : Int))]) (fun k w => Upd (fun _ => False) w104 w ∧ (k ≤ ns.length)) (fun k => ns.length - k) 0 ⟨rfl, rfl, rfl, rfl, rfl, trivial⟩ ⟨Upd.refl _ _, Nat.zero_le _⟩ ?_)))))))))))))
  intro k w111 hW K110 hK110
  obtain ⟨u112, I113⟩ := hW
  have zu112 := u112.size
  have E114 := E107.next u112 (fun _ _ h => h.elim)
  have hk := I113; clear I113
  refine c_seq fun K115 hK115 => (c_seq fun K116 hK116 => (c_region (t_move rfl rfl rfl (t_move rfl rfl rfl (t_len Tryz.underlying23 rfl rfl rfl rfl (t_cmp rfl rfl rfl rfl rfl (t_nil' (hK116 _ _ (c_condp rfl (fun g34 => ?_) (fun g34 => ?_))))))))))
  ·
   refine c_skip (hK115 _ _ (c_seq fun K117 hK117 => (c_block (c_seq fun K118 hK118 => ?_))))
   have B119 := ((B100.keep u105 (fun h => h)).keep u112 (fun h => h))
   refine WC.weak [(1, .pointer (some ⟨bk2, 0, none⟩)), (4, .slice aoN ns.length cpN), (5, .slice aoA ms.length cpA), (6, .int .i64 eA), (7, .int .i64 (k : Int))] ⟨rfl, rfl, rfl, rfl, rfl, trivial⟩ (c_drawn follows 10 [some (37, some (.slice aoN ns.length cpN)), some (38, some (.int .i64 (k : Int))), some (39, some (.pointer (some ⟨bN, 0 + k * 4, none⟩))), some (40, some (.agg #[.int .i64 ((nth ns k).frm), .int .i64 ((nth ns k).to), .int .i64 ((nth ns k).wid), .bool ((nth ns k).single)])), some (41, some (.pointer (some ⟨bk2, 1, none⟩))), some (42, some (.slice an ns.length cn)), some (43, some (.int .i64 (k : Int))), some (44, some (.pointer (some ⟨bn, on + k * 4, none⟩))), some (45, some (.agg #[.int .i64 ((nth ns k).frm), .int .i64 ((nth ns k).to), .int .i64 ((nth ns k).wid), .bool ((nth ns k).single)])), some (46, some (.bool false))] [[],[],[0,1],[2],[],[4],[],[5,6],[7],[3,8]] (fun _ _ w => Upd (fun _ => False) w111 w) rfl rfl rfl (by kernel_rfl) (by kernel_rfl) (Upd.drew _).to ⟨?_, ?_, ?_, ?_, ?_, ?_, ?_, ?_, ?_, ?_, trivial⟩ ?_)
   · exact pz rfl rfl rfl rfl fun _ _ _ h => h
   · exact pz rfl rfl rfl rfl fun _ _ _ h => h
   ·
    intro D ρ w123 hcD hnD hdD hW
    have zhW := hW.size
    refine ⟨_, kf_fr [37, 38], fun Lr => ?_⟩
    have D126 := ((((H90.keep u95 (fun _ h => h)).keep u105 (fun _ h => h)).keep u112 (fun _ h => h)).keep hW (fun _ h => h))
    have i127 : k < ns.length := (by omega)
    refine t_index (j := k) Tryz.underlying23 Tryz.sizeOf36 rfl rfl rfl rfl (D126.addr (by omega)) rfl i127 ?_
    exact dz rfl hW
   ·
    intro D ρ w128 hcD hnD hdD hW
    have zhW := hW.size
    refine ⟨_, kf_fr [39], fun Lr => ?_⟩
    have D131 := ((((H90.keep u95 (fun _ h => h)).keep u105 (fun _ h => h)).keep u112 (fun _ h => h)).keep hW (fun _ h => h))
    refine t_loadN (vs := [.int .i64 ((nth ns k).frm), .int .i64 ((nth ns k).to), .int .i64 ((nth ns k).wid), .bool ((nth ns k).single)]) Tryz.isAgg36 Tryz.sizeOf36 rfl rfl rfl ((D131.at_ k (by omega)).sub 0 4) rfl ?_
    exact dz rfl hW
   · exact pzf Tryz.underlying25 rfl Tryz.sizeOf23 (1) rfl rfl rfl rfl rfl fun _ _ _ h => h
   ·
    intro D ρ w132 hcD hnD hdD hW
    have zhW := hW.size
    refine ⟨_, kf_fr [41], fun Lr => ?_⟩
    have B135 := (B119.keep hW (fun h => h))
    refine t_load Tryz.isAgg23 rfl rfl rfl (B135.get rfl) ?_
    exact dz rfl hW
   · exact pz rfl rfl rfl rfl fun _ _ _ h => h
   ·
    intro D ρ w136 hcD hnD hdD hW
    have zhW := hW.size
    have E138 := E114.next hW (fun _ _ h => h.elim)
    refine ⟨_, kf_fr [42, 43], fun Lr => ?_⟩
    have i139 : k < ns.length := (by omega)
    refine t_index (j := k) Tryz.underlying23 Tryz.sizeOf36 rfl rfl rfl rfl ((hn.keep E138 (fun _ h => h)).addr (by omega)) rfl i139 ?_
    exact dz rfl hW
   ·
    intro D ρ w140 hcD hnD hdD hW
    have zhW := hW.size
    have E142 := E114.next hW (fun _ _ h => h.elim)
    refine ⟨_, kf_fr [44], fun Lr => ?_⟩
    refine t_loadN (vs := [.int .i64 ((nth ns k).frm), .int .i64 ((nth ns k).to), .int .i64 ((nth ns k).wid), .bool ((nth ns k).single)]) Tryz.isAgg36 Tryz.sizeOf36 rfl rfl rfl (((hn.keep E142 (fun _ h => h)).at_ k (by omega)).sub 0 4) rfl ?_
    exact dz rfl hW
   ·
    intro D ρ w143 hcD hnD hdD hW
    have zhW := hW.size
    refine ⟨_, kf_fr [40, 45], fun Lr => ?_⟩
    refine t_neS (xs := [.int .i64 ((nth ns k).frm), .int .i64 ((nth ns k).to), .int .i64 ((nth ns k).wid), .bool ((nth ns k).single)]) (ys := [.int .i64 ((nth ns k).frm), .int .i64 ((nth ns k).to), .int .i64 ((nth ns k).wid), .bool ((nth ns k).single)]) (by kernel_rfl) (eqIn36 9998 ((nth ns k).frm) ((nth ns k).to) ((nth ns k).wid) ((nth ns k).single) ((nth ns k).frm) ((nth ns k).to) ((nth ns k).wid) ((nth ns k).single)) rfl rfl rfl rfl (t_samehd (v := .bool false) (by simp) ?_)
    exact dz rfl hW
   intro ρ w146 hW
   have u147 : Upd (fun _ => False) w111 w146 := hW
   have zu147 := u147.size
   refine QK.weak [(1, .pointer (some ⟨bk2, 0, none⟩)), (4, .slice aoN ns.length cpN), (5, .slice aoA ms.length cpA), (6, .int .i64 eA), (7, .int .i64 (k : Int)), (46, .bool false)] ⟨rfl, rfl, rfl, rfl, rfl, rfl, trivial⟩ (hK118 _ _ (c_cond_f rfl (c_skip (hK117 _ _ (c_region (t_move rfl rfl rfl (t_ari rfl rfl rfl rfl rfl (by omega) (t_assign rfl rfl rfl (t_nil' ?_)))))))))
   exact hK110 (k + 1) _ _ (by omega) ⟨rfl, rfl, rfl, rfl, rfl, trivial⟩ ⟨(u112.next u147 (fun _ _ h => h.elim)), (by omega)⟩
  ·
   refine c_exit (hK108 _ _ (c_seq fun K149 hK149 => (c_seq fun K150 hK150 => (c_region (t_field Tryz.underlying25 rfl Tryz.sizeOf22 (0) rfl rfl rfl rfl ?_)))))
   have B151 := ((B100.keep u105 (fun h => h)).keep u112 (fun h => h))
   refine t_load Tryz.isAgg22 rfl rfl rfl (B151.get rfl) (t_field Tryz.underlying25 rfl Tryz.sizeOf23 (1) rfl rfl rfl rfl (t_load Tryz.isAgg23 rfl rfl rfl (B151.get rfl) (t_call (vs := [.slice av vs.length cv, .slice an ns.length cn]) own10 rfl rfl rfl rfl (rStart_c vs av bv ov cv ns an bn on cn _ (hs.keep E114 (fun _ h => h)) (fun x hx => (hruns x hx).keep E114 (fun _ h => h)) (hn.keep E114 (fun _ h => h)) (by omega) (by omega) hrl) (fun v152 w153 r155 => ?_))))
   obtain ⟨rfl, u154⟩ := r155
   have zu154 := u154.size
   have E156 := E114.next u154 (fun _ _ h => h.elim)
   refine t_assign rfl rfl rfl (t_nil' (hK150 _ _ (c_seq fun K157 hK157 => (c_region (t_move rfl rfl rfl (t_cmp rfl rfl rfl rfl rfl (t_nil' (hK157 _ _ (c_condp rfl (fun g53 => ?_) (fun g53 => ?_))))))))))
   ·
    have hm0 : ms.length = 0 := by rw [hms1 (by omega)]; rfl
    refine c_seq fun K158 hK158 => (c_region (t_move rfl rfl rfl (t_move rfl rfl rfl (t_cmp rfl rfl rfl rfl rfl (t_same 56 (v := .bool true) rfl (congrArg Value.bool (decide_eq_true (by omega))) (t_move rfl rfl rfl (t_move rfl rfl rfl (t_len Tryz.underlying30 rfl rfl rfl rfl (t_cmp rfl rfl rfl rfl rfl (t_same 60 (v := .bool true) rfl (congrArg Value.bool (decide_eq_true (by omega))) (t_pick_t rfl rfl rfl rfl (t_move rfl rfl rfl (t_call (vs := []) own5 rfl rfl rfl rfl (known_c _) (fun v159 w160 r162 => ?_))))))))))))))
    obtain ⟨rfl, u161⟩ := r162
    have zu161 := u161.size
    have E163 := E156.next u161 (fun _ _ h => h.elim)
    refine t_pick_t rfl rfl rfl rfl (t_assign rfl rfl rfl (t_nil' (hK158 _ _ (c_ret (f_ret1 (v := .bool true) Tryz.results3 rfl ?_)))))
    exact ⟨rfl, E163⟩
   ·
    have hE : OpenE (vs.map HVoy.v) ns = 0 := by omega
    have hsz := open_len hE
    rw [List.length_map] at hsz
    have hto := thr_of_open hE
    have hokv : ∀ x ∈ vs, okVoy x.v = true := fun x hx => hto.1 x.v (List.mem_map.2 ⟨x, hx, rfl⟩)
    have hokn := hto.2.1
    have hthr : ∀ x ∈ vs, ∀ n ∈ ns, thrE x.v n = 0 := fun x hx => hto.2.2 x.v (List.mem_map.2 ⟨x, hx, rfl⟩)
    have hmE := hms2 (by omega)
    have hml : ms.length ≤ 2880 := by rw [hmE]; exact confL_len (by rw [List.length_map]; omega) (by omega)
    refine c_skip (hK149 _ _ (c_seq fun K164 hK164 => (c_region (t_field Tryz.underlying25 rfl Tryz.sizeOf22 (0) rfl rfl rfl rfl ?_))))
    have B165 := (B151.keep u154 (fun h => h))
    refine t_load Tryz.isAgg22 rfl rfl rfl (B165.get rfl) (t_field Tryz.underlying25 rfl Tryz.sizeOf23 (1) rfl rfl rfl rfl (t_load Tryz.isAgg23 rfl rfl rfl (B165.get rfl) (t_call (vs := [.slice av vs.length cv, .slice an ns.length cn]) own11 rfl rfl rfl rfl (by have h := rConflicts_c vs av bv ov cv ns an bn on cn _ (hs.keep E156 (fun _ h => h)) (fun x hx => (hruns x hx).keep E156 (fun _ h => h)) (hn.keep E156 (fun _ h => h)) (by omega) (by omega) hokv hokn hthr; rw [← hmE] at h; exact h) (fun v166 w167 r169 => ?_))))
    obtain ⟨⟨aoB, bB, cpB, rfl, hHB⟩, u168⟩ := r169
    have zu168 := u168.size
    have E170 := E156.next u168 (fun _ _ h => h.elim)
    refine t_assign rfl rfl rfl (t_nil' (hK164 _ _ (c_seq fun K171 hK171 => (c_seq fun K172 hK172 => (c_region (t_move rfl rfl rfl (t_cmp rfl rfl rfl rfl rfl (t_same 71 (v := .bool false) rfl (congrArg Value.bool (decide_eq_false (by omega))) (t_move rfl rfl rfl (t_move rfl rfl rfl (t_len Tryz.underlying30 rfl rfl rfl rfl (t_move rfl rfl rfl (t_len Tryz.underlying30 rfl rfl rfl rfl (t_cmp rfl rfl rfl rfl rfl (t_samehd (v := .bool false) (by simp) (t_pick_f rfl rfl rfl rfl (t_nil' (hK172 _ _ (c_cond_f rfl (c_skip (hK171 _ _ (c_seq fun K173 hK173 => (c_seq fun K174 hK174 => ?_)))))))))))))))))))))))
    refine c_region (t_assign rfl rfl rfl (t_nil' (hK174 _ _ (c_block (c_loop (γ := Nat) (fun k => [(5, .slice aoA ms.length cpA), (9, .slice aoB ms.length cpB), (10, .int .i64 (k : Int))]) (fun k w => Upd (fun _ => False) w167 w ∧ (k ≤ ms.length)) (fun k => ms.length - k) 0 ⟨rfl, rfl, rfl, trivial⟩ ⟨Upd.refl _ _, Nat.zero_le _⟩ ?_)))))
    intro k w176 hW K175 hK175
    obtain ⟨u177, I178⟩ := hW
    have zu177 := u177.size
    have E179 := E170.next u177 (fun _ _ h => h.elim)
    have hk := I178; clear I178
    refine c_seq fun K180 hK180 => (c_seq fun K181 hK181 => (c_region (t_move rfl rfl rfl (t_move rfl rfl rfl (t_len Tryz.underlying30 rfl rfl rfl rfl (t_cmp rfl rfl rfl rfl rfl (t_nil' (hK181 _ _ (c_condp rfl (fun g82 => ?_) (fun g82 => ?_))))))))))
    ·
     refine c_skip (hK180 _ _ (c_seq fun K182 hK182 => (c_block (c_seq fun K183 hK183 => (WC.weak [(5, .slice aoA ms.length cpA), (9, .slice aoB ms.length cpB), (10, .int .i64 (k : Int))] ⟨rfl, rfl, rfl, trivial⟩ (c_drawn follows 9 [some (85, some (.slice aoA ms.length cpA)), some (86, some (.int .i64 (k : Int))), some (87, some (.pointer (some ⟨bA, 0 + k * 3, none⟩))), some (88, some (.agg #[.int .i64 ((nth ms k).a : Int), .int .i64 ((nth ms k).b : Int), .int .i64 ((nth ms k).k : Int)])), some (89, some (.slice aoB ms.length cpB)), some (90, some (.int .i64 (k : Int))), some (91, some (.pointer (some ⟨bB, 0 + k * 3, none⟩))), some (92, some (.agg #[.int .i64 ((nth ms k).a : Int), .int .i64 ((nth ms k).b : Int), .int .i64 ((nth ms k).k : Int)])), some (93, some (.bool false))] [[],[],[0,1],[2],[],[],[4,5],[6],[3,7]] (fun _ _ w => Upd (fun _ => False) w176 w) rfl rfl rfl (by kernel_rfl) (by kernel_rfl) (Upd.drew _).to ⟨?_, ?_, ?_, ?_, ?_, ?_, ?_, ?_, ?_, trivial⟩ ?_))))))
     · exact pz rfl rfl rfl rfl fun _ _ _ h => h
     · exact pz rfl rfl rfl rfl fun _ _ _ h => h
     ·
      intro D ρ w188 hcD hnD hdD hW
      have zhW := hW.size
      refine ⟨_, kf_fr [85, 86], fun Lr => ?_⟩
      have D191 := ((((((hHA.keep u105 (fun _ h => h)).keep u112 (fun _ h => h)).keep u154 (fun _ h => h)).keep u168 (fun _ h => h)).keep u177 (fun _ h => h)).keep hW (fun _ h => h))
      have i192 : k < ms.length := (by omega)
      refine t_index (j := k) Tryz.underlying30 Tryz.sizeOf40 rfl rfl rfl rfl (D191.addr (by omega)) rfl i192 ?_
      exact dz rfl hW
     ·
      intro D ρ w193 hcD hnD hdD hW
      have zhW := hW.size
      refine ⟨_, kf_fr [87], fun Lr => ?_⟩
      have D196 := ((((((hHA.keep u105 (fun _ h => h)).keep u112 (fun _ h => h)).keep u154 (fun _ h => h)).keep u168 (fun _ h => h)).keep u177 (fun _ h => h)).keep hW (fun _ h => h))
      refine t_loadN (vs := [.int .i64 ((nth ms k).a : Int), .int .i64 ((nth ms k).b : Int), .int .i64 ((nth ms k).k : Int)]) Tryz.isAgg40 Tryz.sizeOf40 rfl rfl rfl ((D196.at_ k (by omega)).sub 0 3) rfl ?_
      exact dz rfl hW
     · exact pz rfl rfl rfl rfl fun _ _ _ h => h
     · exact pz rfl rfl rfl rfl fun _ _ _ h => h
     ·
      intro D ρ w197 hcD hnD hdD hW
      have zhW := hW.size
      refine ⟨_, kf_fr [89, 90], fun Lr => ?_⟩
      have D200 := ((hHB.keep u177 (fun _ h => h)).keep hW (fun _ h => h))
      have i201 : k < ms.length := (by omega)
      refine t_index (j := k) Tryz.underlying30 Tryz.sizeOf40 rfl rfl rfl rfl (D200.addr (by omega)) rfl i201 ?_
      exact dz rfl hW
     ·
      intro D ρ w202 hcD hnD hdD hW
      have zhW := hW.size
      refine ⟨_, kf_fr [91], fun Lr => ?_⟩
      have D205 := ((hHB.keep u177 (fun _ h => h)).keep hW (fun _ h => h))
      refine t_loadN (vs := [.int .i64 ((nth ms k).a : Int), .int .i64 ((nth ms k).b : Int), .int .i64 ((nth ms k).k : Int)]) Tryz.isAgg40 Tryz.sizeOf40 rfl rfl rfl ((D205.at_ k (by omega)).sub 0 3) rfl ?_
      exact dz rfl hW
     ·
      intro D ρ w206 hcD hnD hdD hW
      have zhW := hW.size
      refine ⟨_, kf_fr [88, 92], fun Lr => ?_⟩
      refine t_neS (xs := [.int .i64 ((nth ms k).a : Int), .int .i64 ((nth ms k).b : Int), .int .i64 ((nth ms k).k : Int)]) (ys := [.int .i64 ((nth ms k).a : Int), .int .i64 ((nth ms k).b : Int), .int .i64 ((nth ms k).k : Int)]) (by kernel_rfl) (eqIn40 9998 ((nth ms k).a : Int) ((nth ms k).b : Int) ((nth ms k).k : Int) ((nth ms k).a : Int) ((nth ms k).b : Int) ((nth ms k).k : Int)) rfl rfl rfl rfl (t_samehd (v := .bool false) (by simp) ?_)
      exact dz rfl hW
     intro ρ w209 hW
     have u210 : Upd (fun _ => False) w176 w209 := hW
     have zu210 := u210.size
     refine QK.weak [(5, .slice aoA ms.length cpA), (9, .slice aoB ms.length cpB), (10, .int .i64 (k : Int)), (93, .bool false)] ⟨rfl, rfl, rfl, rfl, trivial⟩ (hK183 _ _ (c_cond_f rfl (c_skip (hK182 _ _ (c_region (t_move rfl rfl rfl (t_ari rfl rfl rfl rfl rfl (by omega) (t_assign rfl rfl rfl (t_nil' ?_)))))))))
     exact hK175 (k + 1) _ _ (by omega) ⟨rfl, rfl, rfl, trivial⟩ ⟨(u177.next u210 (fun _ _ h => h.elim)), (by omega)⟩
    ·
     refine c_exit (hK173 _ _ (c_seq fun K212 hK212 => (c_region (t_call (vs := []) own5 rfl rfl rfl rfl (known_c _) (fun v213 w214 r216 => ?_)))))
     obtain ⟨rfl, u215⟩ := r216
     have zu215 := u215.size
     have E217 := E179.next u215 (fun _ _ h => h.elim)
     refine t_assign rfl rfl rfl (t_nil' (hK212 _ _ (c_ret (f_ret1 (v := .bool true) Tryz.results3 rfl ?_))))
     exact ⟨rfl, E217⟩

end Go.Proofs.YtmicjleiheoieaaGreat
