/-
  The contract of the reference's Holds. Conditions: none.
-/
import Derived.Test.YtmicjleiheoieaaOA34
import Derived.Test.YtmicjleiheoieaaOA41
namespace Go.Proofs.Ytmicjleiheoieaa
open Go Go.RowKit

theorem own27 : Own Try.prog 27 := ⟨Try.f27, Try.func27, by kernel_rfl, by kernel_rfl⟩

set_option maxHeartbeats 1000000 in
theorem rHolds_c (vs : List HVoy) (av : Option Addr) (bv ov cv : Nat) (ns : List Nar) (an : Option Addr) (bn on cn : Nat) (most : Int) (w0 : World) (hs : Sl encHVoy 5 w0 av bv ov vs) (hruns : ∀ x ∈ vs, Sl encRun 6 w0 x.ao x.b x.o x.v.runs) (hn : Sl encNar 4 w0 an bn on ns) (hvl : vs.length ≤ 1000000) (hnl : ns.length ≤ 1000000) (hokv : ∀ x ∈ vs, okVoy x.v = true) (hokn : ∀ n ∈ ns, okNar n = true) (hthr : ∀ x ∈ vs, ∀ n ∈ ns, thrE x.v n = 0) (hmost : 0 ≤ most ∧ most ≤ 5000) :
    CallsV Try.prog 27 [.slice av vs.length cv, .slice an ns.length cn, .int .i64 most] w0 (fun x w' => (∃ ls a e ao b cap, x = .tuple #[.slice ao ls.length cap, .int .i64 a, .int .i64 e] ∧ Sl encI 1 w' ao b 0 ls ∧ HoldsR (vs.map HVoy.v) ns most ls a e ∧ (0 < ls.length → w0.heap.size ≤ b)) ∧ Ext w0 w') := by
 have E0 := Upd.refl (fun _ => False) w0
 refine f_enter (N := 86) Try.func27 rfl rfl rfl ?_
 change WC _ _ _ _ _ _ [(0, .slice av vs.length cv), (1, .slice an ns.length cn), (2, .int .i64 most)] _
 refine c_seq fun K1 hK1 => (c_region (t_assign rfl rfl rfl (t_assign rfl rfl rfl (t_assign rfl rfl rfl (t_nil' (hK1 _ _ (c_seq fun K2 hK2 => (c_region (t_bslice (ps := []) (cs := []) (e := 3) rfl rfl ⟨rfl, rfl⟩ (fun w => by kernel_rfl) (fun bk3 w4 ebk3 sbk3 B5 u6 => ?_))))))))))
 have zu6 := u6.size
 have E7 := E0.next u6 (fun _ _ h => h.elim)
 refine t_bslice (ps := []) (cs := []) (e := 48) rfl rfl ⟨rfl, rfl⟩ (fun w => by kernel_rfl) (fun bk8 w9 ebk8 sbk8 B10 u11 => ?_)
 have zu11 := u11.size
 have E12 := E7.next u11 (fun _ _ h => h.elim)
 refine t_assign rfl rfl rfl (t_assign rfl rfl rfl (t_nil' (hK2 _ _ (c_seq fun K13 hK13 => (c_seq fun K14 hK14 => (c_region (t_assign rfl rfl rfl (t_nil' (hK14 _ _ (c_block ?_))))))))))
 have B15 := (B5.keep u11 (fun h => h))
 refine c_loop (γ := Nat × Option Addr × Nat × Nat × List Int × Option Addr × Nat × Nat × List HVoy) (fun gg => [(0, .slice av vs.length cv), (1, .slice an ns.length cn), (2, .int .i64 most), (9, .slice gg.2.1 gg.2.2.2.2.1.length gg.2.2.2.1), (10, .slice gg.2.2.2.2.2.1 gg.2.2.2.2.2.2.2.2.length gg.2.2.2.2.2.2.2.1), (11, .int .i64 (gg.1 : Int))]) (fun gg w => Upd (fun i => i = bk3 ∨ i = bk8) w9 w ∧ (gg.1 ≤ vs.length) ∧ (gg.2.2.2.2.1.length = gg.1) ∧ (gg.2.2.2.2.2.2.2.2.length = gg.1) ∧ (∀ j, j < gg.1 → nth gg.2.2.2.2.2.2.2.2 j = heldRow (nth vs j) (nth gg.2.2.2.2.1 j)) ∧ (∀ j, j < gg.1 → LeastR (vs.map HVoy.v) ns gg.2.2.2.2.1 j (nth gg.2.2.2.2.1 j) ∧ nth gg.2.2.2.2.1 j ≤ most) ∧ (Acc encI 1 3 bk3 w gg.2.1 gg.2.2.1 gg.2.2.2.1 gg.2.2.2.2.1) ∧ (Acc encHVoy 5 48 bk8 w gg.2.2.2.2.2.1 gg.2.2.2.2.2.2.1 gg.2.2.2.2.2.2.2.1 gg.2.2.2.2.2.2.2.2) ∧ (gg.2.2.1 ≠ gg.2.2.2.2.2.2.1)) (fun gg => vs.length - gg.1) (0, some ⟨bk3, 0, none⟩, bk3, 0, [], some ⟨bk8, 0, none⟩, bk8, 0, []) ⟨rfl, rfl, rfl, rfl, rfl, rfl, trivial⟩ ⟨Upd.refl _ _, (Nat.zero_le _), rfl, rfl, (fun j hj => by cases hj), (fun j hj => by cases hj), (Acc.lit encI 1 B15 (Nat.le_refl _)), (Acc.lit encHVoy 5 B10 (Nat.le_refl _)), (by show bk3 ≠ bk8; omega)⟩ ?_
 intro gg w17 hW K16 hK16
 obtain ⟨y, ao1, g1, c1, os, ao2, g2, c2, us⟩ := gg
 change WC _ _ _ _ _ _ [(0, .slice av vs.length cv), (1, .slice an ns.length cn), (2, .int .i64 most), (9, .slice ao1 os.length c1), (10, .slice ao2 us.length c2), (11, .int .i64 (y : Int))] _
 change Upd (fun i => i = bk3 ∨ i = bk8) w9 w17 ∧ (y ≤ vs.length) ∧ (os.length = y) ∧ (us.length = y) ∧ (∀ j, j < y → nth us j = heldRow (nth vs j) (nth os j)) ∧ (∀ j, j < y → LeastR (vs.map HVoy.v) ns os j (nth os j) ∧ nth os j ≤ most) ∧ (Acc encI 1 3 bk3 w17 ao1 g1 c1 os) ∧ (Acc encHVoy 5 48 bk8 w17 ao2 g2 c2 us) ∧ (g1 ≠ g2) at hW
 obtain ⟨u18, I19, I20, I21, I22, I23, I24, I25, I26⟩ := hW
 have zu18 := u18.size
 have E27 := E12.next u18 (fun i hi (h : i = bk3 ∨ i = bk8) => show False by first | omega | assumption)
 have hi := I19; clear I19
 have hol := I20; clear I20
 have hul := I21; clear I21
 have hus := I22; clear I22
 have hle := I23; clear I23
 have hacc1 := I24; clear I24
 have hacc2 := I25; clear I25
 have hne := I26; clear I26
 have lt_g1 := hacc1.lt
 have lt_g2 := hacc2.lt
 refine c_seq fun K28 hK28 => (c_seq fun K29 hK29 => (c_region (t_move rfl rfl rfl (t_move rfl rfl rfl (t_len Try.underlying34 rfl rfl rfl rfl (t_cmp rfl rfl rfl rfl rfl (t_nil' (hK29 _ _ (c_condp rfl (fun g22 => ?_) (fun g22 => ?_))))))))))
 ·
  refine c_skip (hK28 _ _ (c_seq fun K30 hK30 => (c_block (c_seq fun K31 hK31 => (c_region (t_assign rfl rfl rfl (t_nil' (hK31 _ _ (c_seq fun K32 hK32 => (c_seq fun K33 hK33 => (c_region (t_assign rfl rfl rfl (t_nil' (hK33 _ _ (c_block (c_loop (γ := Nat × Int) (fun gg => [(0, .slice av vs.length cv), (1, .slice an ns.length cn), (2, .int .i64 most), (9, .slice ao1 os.length c1), (10, .slice ao2 us.length c2), (11, .int .i64 (y : Int)), (12, .int .i64 gg.2), (13, .int .i64 (gg.1 : Int))]) (fun gg w => Upd (fun _ => False) w17 w ∧ ((gg.1 : Int) ≤ most + 1) ∧ ((gg.2 = -1 ∧ ∀ h2 : Int, 0 ≤ h2 → h2 < gg.1 → ¬ FreeR (vs.map HVoy.v) ns os y h2) ∨ (LeastR (vs.map HVoy.v) ns os y gg.2 ∧ gg.2 ≤ most))) (fun gg => (most + 1 - gg.1).toNat) (0, -1) ⟨rfl, rfl, rfl, rfl, rfl, rfl, rfl, rfl, trivial⟩ ⟨Upd.refl _ _, (by show ((0 : Nat) : Int) ≤ most + 1; omega), (.inl ⟨rfl, fun h2 h3 h4 => by have h5 : h2 < ((0 : Nat) : Int) := h4; omega⟩)⟩ ?_))))))))))))))))
  intro gg w35 hW K34 hK34
  obtain ⟨h, l⟩ := gg
  change WC _ _ _ _ _ _ [(0, .slice av vs.length cv), (1, .slice an ns.length cn), (2, .int .i64 most), (9, .slice ao1 os.length c1), (10, .slice ao2 us.length c2), (11, .int .i64 (y : Int)), (12, .int .i64 l), (13, .int .i64 (h : Int))] _
  change Upd (fun _ => False) w17 w35 ∧ ((h : Int) ≤ most + 1) ∧ ((l = -1 ∧ ∀ h2 : Int, 0 ≤ h2 → h2 < h → ¬ FreeR (vs.map HVoy.v) ns os y h2) ∨ (LeastR (vs.map HVoy.v) ns os y l ∧ l ≤ most)) at hW
  obtain ⟨u36, I37, I38⟩ := hW
  have zu36 := u36.size
  have E39 := E27.next u36 (fun _ _ h => h.elim)
  have hh := I37; clear I37
  have hl := I38; clear I38
  refine c_seq fun K40 hK40 => (c_seq fun K41 hK41 => (c_region (t_move rfl rfl rfl (t_move rfl rfl rfl (t_cmp rfl rfl rfl rfl rfl (t_move rfl rfl rfl (t_splitp 28 rfl (fun g28 => ?_) (fun g28 => ?_))))))))
  ·
   refine t_move rfl rfl rfl (t_cmp rfl rfl rfl rfl rfl (t_pick_t rfl rfl rfl rfl (t_nil' (hK41 _ _ (c_condp rfl (fun g31 => ?_) (fun g31 => ?_))))))
   ·
    refine c_skip (hK40 _ _ (c_seq fun K42 hK42 => (c_block (c_seq fun K43 hK43 => (c_region (t_assign rfl rfl rfl (t_nil' (hK43 _ _ (c_seq fun K44 hK44 => (c_seq fun K45 hK45 => (c_region (t_assign rfl rfl rfl (t_nil' (hK45 _ _ (c_block (c_loop (γ := Nat × Bool) (fun gg => [(0, .slice av vs.length cv), (1, .slice an ns.length cn), (2, .int .i64 most), (9, .slice ao1 os.length c1), (10, .slice ao2 us.length c2), (11, .int .i64 (y : Int)), (12, .int .i64 l), (13, .int .i64 (h : Int)), (14, .bool gg.2), (15, .int .i64 (gg.1 : Int))]) (fun gg w => Upd (fun _ => False) w35 w ∧ (gg.1 ≤ y) ∧ (gg.2 = true → ∀ j2, j2 < gg.1 → ∀ k2, k2 < ns.length → barsV (heldV (nth (vs.map HVoy.v) j2) (nth os j2)) (heldV (nth (vs.map HVoy.v) y) h) (nth ns k2) = false) ∧ (gg.2 = false → ¬ FreeR (vs.map HVoy.v) ns os y h)) (fun gg => y - gg.1) (0, true) ⟨rfl, rfl, rfl, rfl, rfl, rfl, rfl, rfl, rfl, rfl, trivial⟩ ⟨Upd.refl _ _, (Nat.zero_le _), (fun _ j2 hj2 => absurd hj2 (Nat.not_lt_zero _)), (fun h => by cases h)⟩ ?_))))))))))))))))
    intro gg w47 hW K46 hK46
    obtain ⟨j, f⟩ := gg
    change WC _ _ _ _ _ _ [(0, .slice av vs.length cv), (1, .slice an ns.length cn), (2, .int .i64 most), (9, .slice ao1 os.length c1), (10, .slice ao2 us.length c2), (11, .int .i64 (y : Int)), (12, .int .i64 l), (13, .int .i64 (h : Int)), (14, .bool f), (15, .int .i64 (j : Int))] _
    change Upd (fun _ => False) w35 w47 ∧ (j ≤ y) ∧ (f = true → ∀ j2, j2 < j → ∀ k2, k2 < ns.length → barsV (heldV (nth (vs.map HVoy.v) j2) (nth os j2)) (heldV (nth (vs.map HVoy.v) y) h) (nth ns k2) = false) ∧ (f = false → ¬ FreeR (vs.map HVoy.v) ns os y h) at hW
    obtain ⟨u48, I49, I50, I51⟩ := hW
    have zu48 := u48.size
    have E52 := E39.next u48 (fun _ _ h => h.elim)
    have hj := I49; clear I49
    have hfr := I50; clear I50
    have hnf := I51; clear I51
    refine c_seq fun K53 hK53 => (c_seq fun K54 hK54 => (c_region (t_move rfl rfl rfl (t_move rfl rfl rfl (t_cmp rfl rfl rfl rfl rfl (t_move rfl rfl rfl (t_splitp 37 rfl (fun g37 => ?_) (fun g37 => ?_))))))))
    ·
     refine t_move rfl rfl rfl (t_pick_t rfl rfl rfl rfl (t_nil' (hK54 _ _ (c_cond rfl (fun g39 => ?_) (fun g39 => ?_)))))
     ·
      refine c_skip (hK53 _ _ (c_seq fun K55 hK55 => (c_block (c_seq fun K56 hK56 => (c_region (t_assign rfl rfl rfl (t_nil' (hK56 _ _ (c_block (c_loop (γ := Nat × Bool) (fun gg => [(0, .slice av vs.length cv), (1, .slice an ns.length cn), (2, .int .i64 most), (9, .slice ao1 os.length c1), (10, .slice ao2 us.length c2), (11, .int .i64 (y : Int)), (12, .int .i64 l), (13, .int .i64 (h : Int)), (14, .bool gg.2), (15, .int .i64 (j : Int)), (16, .int .i64 (gg.1 : Int))]) (fun gg w => Upd (fun _ => False) w47 w ∧ (gg.1 ≤ ns.length) ∧ (gg.2 = true → ∀ k2, k2 < gg.1 → barsV (heldV (nth (vs.map HVoy.v) j) (nth os j)) (heldV (nth (vs.map HVoy.v) y) h) (nth ns k2) = false) ∧ (gg.2 = false → ¬ FreeR (vs.map HVoy.v) ns os y h)) (fun gg => ns.length - gg.1) (0, f) ⟨rfl, rfl, rfl, rfl, rfl, rfl, rfl, rfl, rfl, rfl, rfl, trivial⟩ ⟨Upd.refl _ _, (Nat.zero_le _), (fun _ k2 hk2 => absurd hk2 (Nat.not_lt_zero _)), hnf⟩ ?_))))))))))
      intro gg w58 hW K57 hK57
      obtain ⟨k, e⟩ := gg
      change WC _ _ _ _ _ _ [(0, .slice av vs.length cv), (1, .slice an ns.length cn), (2, .int .i64 most), (9, .slice ao1 os.length c1), (10, .slice ao2 us.length c2), (11, .int .i64 (y : Int)), (12, .int .i64 l), (13, .int .i64 (h : Int)), (14, .bool e), (15, .int .i64 (j : Int)), (16, .int .i64 (k : Int))] _
      change Upd (fun _ => False) w47 w58 ∧ (k ≤ ns.length) ∧ (e = true → ∀ k2, k2 < k → barsV (heldV (nth (vs.map HVoy.v) j) (nth os j)) (heldV (nth (vs.map HVoy.v) y) h) (nth ns k2) = false) ∧ (e = false → ¬ FreeR (vs.map HVoy.v) ns os y h) at hW
      obtain ⟨u59, I60, I61, I62⟩ := hW
      have zu59 := u59.size
      have E63 := E52.next u59 (fun _ _ h => h.elim)
      have hk := I60; clear I60
      have hek := I61; clear I61
      have hnk := I62; clear I62
      refine c_seq fun K64 hK64 => (c_seq fun K65 hK65 => (c_region (t_move rfl rfl rfl (t_move rfl rfl rfl (t_len Try.underlying35 rfl rfl rfl rfl (t_cmp rfl rfl rfl rfl rfl (t_move rfl rfl rfl (t_splitp 46 rfl (fun g46 => ?_) (fun g46 => ?_)))))))))
      ·
       refine t_move rfl rfl rfl (t_pick_t rfl rfl rfl rfl (t_nil' (hK65 _ _ (c_cond rfl (fun g48 => ?_) (fun g48 => ?_)))))
       ·
        refine c_skip (hK64 _ _ (c_seq fun K66 hK66 => (c_block ?_)))
        have hej : nth us j = heldRow (nth vs j) (nth os j) := hus j (by omega)
        have hob := hle j (by omega)
        have ho0 := hob.1.1
        have hnkr := hokn (nth ns k) (nth_mem (by omega))
        have hkj : okGo (nth us j).v := by rw [hej]; exact okGo.held (hokv (nth vs j) (nth_mem (by omega))) (by omega)
        have hki : okGo (heldV (nth vs y).v (h : Int)) := okGo.held (hokv (nth vs y) (nth_mem (by omega))) (by omega)
        have he1 : thrE (nth us j).v (nth ns k) = 0 := by rw [hej]; exact hthr (nth vs j) (nth_mem (by omega)) (nth ns k) (nth_mem (by omega))
        have he2 : thrE (heldV (nth vs y).v (h : Int)) (nth ns k) = 0 := hthr (nth vs y) (nth_mem (by omega)) (nth ns k) (nth_mem (by omega))
        refine WC.weak [(0, .slice av vs.length cv), (1, .slice an ns.length cn), (2, .int .i64 most), (9, .slice ao1 os.length c1), (10, .slice ao2 us.length c2), (11, .int .i64 (y : Int)), (12, .int .i64 l), (13, .int .i64 (h : Int)), (15, .int .i64 (j : Int)), (16, .int .i64 (k : Int))] ⟨rfl, rfl, rfl, rfl, rfl, rfl, rfl, rfl, rfl, rfl, trivial⟩ (c_drawn follows 17 [some (51, some (.slice ao2 us.length c2)), some (52, some (.int .i64 (j : Int))), some (53, some (.pointer (some ⟨g2, 0 + j * 5, none⟩))), some (54, some (.agg #[.int .i64 ((nth us j).v.st.lo), .int .i64 ((nth us j).v.st.hi), .slice ((nth us j).ao) (((nth us j).v.runs).length) ((nth us j).cap), .int .i64 ((nth us j).v.len), .int .i64 ((nth us j).v.wid)])), some (55, some (.slice av vs.length cv)), some (56, some (.int .i64 (y : Int))), some (57, some (.pointer (some ⟨bv, ov + y * 5, none⟩))), some (58, some (.agg #[.int .i64 ((nth vs y).v.st.lo), .int .i64 ((nth vs y).v.st.hi), .slice ((nth vs y).ao) (((nth vs y).v.runs).length) ((nth vs y).cap), .int .i64 ((nth vs y).v.len), .int .i64 ((nth vs y).v.wid)])), some (59, some (.int .i64 (h : Int))), some (60, some (.agg #[.int .i64 ((heldV (nth vs y).v (h : Int)).st.lo), .int .i64 ((heldV (nth vs y).v (h : Int)).st.hi), .slice ((nth vs y).ao) (((heldV (nth vs y).v (h : Int)).runs).length) ((nth vs y).cap), .int .i64 ((heldV (nth vs y).v (h : Int)).len), .int .i64 ((heldV (nth vs y).v (h : Int)).wid)])), some (61, some (.slice an ns.length cn)), some (62, some (.int .i64 (k : Int))), some (63, some (.pointer (some ⟨bn, on + k * 4, none⟩))), some (64, some (.agg #[.int .i64 ((nth ns k).frm), .int .i64 ((nth ns k).to), .int .i64 ((nth ns k).wid), .bool ((nth ns k).single)])), some (65, some (.bool (barsV (nth us j).v (heldV (nth vs y).v (h : Int)) (nth ns k)))), some (66, some (.bool (!(barsV (nth us j).v (heldV (nth vs y).v (h : Int)) (nth ns k))))), some (14, some (.bool (!(barsV (nth us j).v (heldV (nth vs y).v (h : Int)) (nth ns k)))))] [[],[],[0,1],[2],[],[],[4,5],[6],[],[7,8],[],[],[10,11],[12],[3,9,13,9],[14],[15,14,0,1,2,3,4,5,6,7,8,9,10,11,12,13,14,15]] (fun _ _ w => Upd (fun _ => False) w58 w) rfl rfl rfl (by kernel_rfl) (by kernel_rfl) (Upd.drew _).to ⟨?_, ?_, ?_, ?_, ?_, ?_, ?_, ?_, ?_, ?_, ?_, ?_, ?_, ?_, ?_, ?_, ?_, trivial⟩ ?_)
        · exact pz rfl rfl rfl rfl fun _ _ _ h => h
        · exact pz rfl rfl rfl rfl fun _ _ _ h => h
        ·
         intro D ρ w81 hcD hnD hdD hW
         have zhW := hW.size
         refine ⟨_, kf_fr [51, 52], fun Lr => ?_⟩
         have D84 := ((((hacc2.keep u36 (fun _ h => h)).keep u48 (fun _ h => h)).keep u59 (fun _ h => h)).keep hW (fun _ h => h))
         have i85 : j < us.length := (by omega)
         refine t_index (j := j) Try.underlying34 Try.sizeOf48 rfl rfl rfl rfl ((D84.sl (fun _ => rfl)).addr (by omega)) rfl i85 ?_
         exact dz rfl hW
        ·
         intro D ρ w86 hcD hnD hdD hW
         have zhW := hW.size
         refine ⟨_, kf_fr [53], fun Lr => ?_⟩
         have D89 := ((((hacc2.keep u36 (fun _ h => h)).keep u48 (fun _ h => h)).keep u59 (fun _ h => h)).keep hW (fun _ h => h))
         refine t_loadN (vs := [.int .i64 ((nth us j).v.st.lo), .int .i64 ((nth us j).v.st.hi), .slice ((nth us j).ao) (((nth us j).v.runs).length) ((nth us j).cap), .int .i64 ((nth us j).v.len), .int .i64 ((nth us j).v.wid)]) Try.isAgg48 Try.sizeOf48 rfl rfl rfl (((D89.sl (fun _ => rfl)).at_ j (by omega)).sub 0 5) rfl ?_
         exact dz rfl hW
        · exact pz rfl rfl rfl rfl fun _ _ _ h => h
        · exact pz rfl rfl rfl rfl fun _ _ _ h => h
        ·
         intro D ρ w90 hcD hnD hdD hW
         have zhW := hW.size
         have E92 := E63.next hW (fun _ _ h => h.elim)
         refine ⟨_, kf_fr [55, 56], fun Lr => ?_⟩
         have i93 : y < vs.length := (by omega)
         refine t_index (j := y) Try.underlying34 Try.sizeOf48 rfl rfl rfl rfl ((hs.keep E92 (fun _ h => h)).addr (by omega)) rfl i93 ?_
         exact dz rfl hW
        ·
         intro D ρ w94 hcD hnD hdD hW
         have zhW := hW.size
         have E96 := E63.next hW (fun _ _ h => h.elim)
         refine ⟨_, kf_fr [57], fun Lr => ?_⟩
         refine t_loadN (vs := [.int .i64 ((nth vs y).v.st.lo), .int .i64 ((nth vs y).v.st.hi), .slice ((nth vs y).ao) (((nth vs y).v.runs).length) ((nth vs y).cap), .int .i64 ((nth vs y).v.len), .int .i64 ((nth vs y).v.wid)]) Try.isAgg48 Try.sizeOf48 rfl rfl rfl (((hs.keep E96 (fun _ h => h)).at_ y (by omega)).sub 0 5) rfl ?_
         exact dz rfl hW
        · exact pz rfl rfl rfl rfl fun _ _ _ h => h
        ·
         intro D ρ w97 hcD hnD hdD hW
         have zhW := hW.size
         refine ⟨_, kf_fr [58, 59], fun Lr => ?_⟩
         refine t_call (vs := [.agg #[.int .i64 ((nth vs y).v.st.lo), .int .i64 ((nth vs y).v.st.hi), .slice ((nth vs y).ao) (((nth vs y).v.runs).length) ((nth vs y).cap), .int .i64 ((nth vs y).v.len), .int .i64 ((nth vs y).v.wid)], .int .i64 (h : Int)]) own65 rfl rfl rfl rfl (rHeld_c (nth vs y).v (nth vs y).ao (nth vs y).b (nth vs y).o (nth vs y).cap (h : Int) _ (okVoy_rng (hokv (nth vs y) (nth_mem (by omega)))).st (by omega)) (fun v100 w101 r103 => ?_)
         obtain ⟨rfl, u102⟩ := r103
         have zu102 := u102.size
         exact dz rfl (hW.next u102 (fun _ _ h => h.elim))
        · exact pz rfl rfl rfl rfl fun _ _ _ h => h
        · exact pz rfl rfl rfl rfl fun _ _ _ h => h
        ·
         intro D ρ w105 hcD hnD hdD hW
         have zhW := hW.size
         have E107 := E63.next hW (fun _ _ h => h.elim)
         refine ⟨_, kf_fr [61, 62], fun Lr => ?_⟩
         have i108 : k < ns.length := (by omega)
         refine t_index (j := k) Try.underlying35 Try.sizeOf72 rfl rfl rfl rfl ((hn.keep E107 (fun _ h => h)).addr (by omega)) rfl i108 ?_
         exact dz rfl hW
        ·
         intro D ρ w109 hcD hnD hdD hW
         have zhW := hW.size
         have E111 := E63.next hW (fun _ _ h => h.elim)
         refine ⟨_, kf_fr [63], fun Lr => ?_⟩
         refine t_loadN (vs := [.int .i64 ((nth ns k).frm), .int .i64 ((nth ns k).to), .int .i64 ((nth ns k).wid), .bool ((nth ns k).single)]) Try.isAgg72 Try.sizeOf72 rfl rfl rfl (((hn.keep E111 (fun _ h => h)).at_ k (by omega)).sub 0 4) rfl ?_
         exact dz rfl hW
        ·
         intro D ρ w112 hcD hnD hdD hW
         have zhW := hW.size
         have E114 := E63.next hW (fun _ _ h => h.elim)
         refine ⟨_, kf_fr [54, 60, 64], fun Lr => ?_⟩
         refine t_call (vs := [.agg #[.int .i64 ((nth us j).v.st.lo), .int .i64 ((nth us j).v.st.hi), .slice ((nth us j).ao) (((nth us j).v.runs).length) ((nth us j).cap), .int .i64 ((nth us j).v.len), .int .i64 ((nth us j).v.wid)], .agg #[.int .i64 ((heldV (nth vs y).v (h : Int)).st.lo), .int .i64 ((heldV (nth vs y).v (h : Int)).st.hi), .slice ((nth vs y).ao) (((heldV (nth vs y).v (h : Int)).runs).length) ((nth vs y).cap), .int .i64 ((heldV (nth vs y).v (h : Int)).len), .int .i64 ((heldV (nth vs y).v (h : Int)).wid)], .agg #[.int .i64 ((nth ns k).frm), .int .i64 ((nth ns k).to), .int .i64 ((nth ns k).wid), .bool ((nth ns k).single)]]) own64 rfl rfl rfl rfl (rBars_c (nth us j).v (nth us j).ao (nth us j).b (nth us j).o (nth us j).cap (heldV (nth vs y).v (h : Int)) (nth vs y).ao (nth vs y).b (nth vs y).o (nth vs y).cap (nth ns k) _ ((show Sl encRun 6 w0 (nth us j).ao (nth us j).b (nth us j).o (nth us j).v.runs from by rw [hej]; exact hruns (nth vs j) (nth_mem (by omega))).keep E114 (fun _ h => h)) ((hruns (nth vs y) (nth_mem (by omega))).keep E114 (fun _ h => h)) hkj hki hnkr he1 he2) (fun v115 w116 r118 => ?_)
         obtain ⟨rfl, u117⟩ := r118
         have zu117 := u117.size
         exact dz rfl (hW.next u117 (fun _ _ h => h.elim))
        · exact pz rfl rfl rfl rfl fun _ _ _ h => h
        · exact pz rfl rfl rfl rfl fun _ _ _ h => h
        intro ρ w120 hW
        have u121 : Upd (fun _ => False) w58 w120 := hW
        have zu121 := u121.size
        refine QK.weak [(0, .slice av vs.length cv), (1, .slice an ns.length cn), (2, .int .i64 most), (9, .slice ao1 os.length c1), (10, .slice ao2 us.length c2), (11, .int .i64 (y : Int)), (12, .int .i64 l), (13, .int .i64 (h : Int)), (14, .bool (!(barsV (nth us j).v (heldV (nth vs y).v (h : Int)) (nth ns k)))), (15, .int .i64 (j : Int)), (16, .int .i64 (k : Int))] ⟨rfl, rfl, rfl, rfl, rfl, rfl, rfl, rfl, rfl, rfl, rfl, trivial⟩ (hK66 _ _ (c_region (t_move rfl rfl rfl (t_ari rfl rfl rfl rfl rfl (by omega) (t_assign rfl rfl rfl (t_nil' ?_))))))
        exact hK57 (k + 1, (!(barsV (nth us j).v (heldV (nth vs y).v (h : Int)) (nth ns k)))) _ _ (by show ns.length - (k + 1) < ns.length - k; omega) ⟨rfl, rfl, rfl, rfl, rfl, rfl, rfl, rfl, rfl, rfl, rfl, trivial⟩ ⟨(u59.next u121 (fun _ _ h => h.elim)), (by show k + 1 ≤ ns.length; omega), (fun he k2 hk2 => by
          rcases Nat.lt_or_ge k2 k with q | q
          · exact hek g48 k2 q
          · rw [show k2 = k from by have h5 : k2 < k + 1 := hk2; omega]; exact okbar hej (by simpa using he)), (fun he => nfree_mk (j := j) (k := k) (by omega) (by omega) hej (by simpa using he))⟩
       ·
        refine c_exit (hK55 _ _ (c_region (t_move rfl rfl rfl (t_ari rfl rfl rfl rfl rfl (by omega) (t_assign rfl rfl rfl (t_nil' ?_))))))
        exact hK46 (j + 1, e) _ _ (by show y - (j + 1) < y - j; omega) ⟨rfl, rfl, rfl, rfl, rfl, rfl, rfl, rfl, rfl, rfl, trivial⟩ ⟨(u48.next u59 (fun _ _ h => h.elim)), (by show j + 1 ≤ y; omega), (fun he j2 hj2 k2 hk2 => by
          rcases Nat.lt_or_ge j2 j with q | q
          · exact hfr g39 j2 q k2 hk2
          · rw [show j2 = j from by have h5 : j2 < j + 1 := hj2; omega]; exact absurd (g48.symm.trans he) (by decide)), hnk⟩
      ·
       refine t_skip rfl rfl rfl (t_pick_f rfl rfl rfl rfl (t_nil' (hK65 _ _ (c_cond_f rfl (c_exit (hK55 _ _ (c_region (t_move rfl rfl rfl (t_ari rfl rfl rfl rfl rfl (by omega) (t_assign rfl rfl rfl (t_nil' ?_)))))))))))
       exact hK46 (j + 1, e) _ _ (by show y - (j + 1) < y - j; omega) ⟨rfl, rfl, rfl, rfl, rfl, rfl, rfl, rfl, rfl, rfl, trivial⟩ ⟨(u48.next u59 (fun _ _ h => h.elim)), (by show j + 1 ≤ y; omega), (fun he j2 hj2 k2 hk2 => by
         rcases Nat.lt_or_ge j2 j with q | q
         · exact hfr g39 j2 q k2 hk2
         · rw [show j2 = j from by have h5 : j2 < j + 1 := hj2; omega]; exact hek he k2 (by omega)), hnk⟩
     ·
      refine c_exit (hK44 _ _ (c_seq fun K123 hK123 => (c_region (t_move rfl rfl rfl (t_nil' (hK123 _ _ (c_cond rfl (fun g67 => ?_) (fun g67 => ?_))))))))
      ·
       refine c_region (t_move rfl rfl rfl (t_assign rfl rfl rfl (t_nil' (hK42 _ _ (c_region (t_move rfl rfl rfl (t_ari rfl rfl rfl rfl rfl (by omega) (t_assign rfl rfl rfl (t_nil' ?_)))))))))
       exact hK34 (h + 1, (h : Int)) _ _ (by show (most + 1 - (h + 1)).toNat < (most + 1 - h).toNat; omega) ⟨rfl, rfl, rfl, rfl, rfl, rfl, rfl, rfl, trivial⟩ ⟨(u36.next u48 (fun _ _ h => h.elim)), (by show ((h + 1 : Nat) : Int) ≤ most + 1; omega), (.inr ⟨⟨by omega, (absurd (g39.symm.trans g67) (by decide)), fun h2 h3 h4 => (hl.resolve_right (fun q => by have := q.1.1; omega)).2 h2 h3 h4⟩, by omega⟩)⟩
      ·
       refine c_skip (hK42 _ _ (c_region (t_move rfl rfl rfl (t_ari rfl rfl rfl rfl rfl (by omega) (t_assign rfl rfl rfl (t_nil' ?_))))))
       exact hK34 (h + 1, l) _ _ (by show (most + 1 - (h + 1)).toNat < (most + 1 - h).toNat; omega) ⟨rfl, rfl, rfl, rfl, rfl, rfl, rfl, rfl, trivial⟩ ⟨(u36.next u48 (fun _ _ h => h.elim)), (by show ((h + 1 : Nat) : Int) ≤ most + 1; omega), (.inl ⟨(hl.resolve_right (fun q => by have := q.1.1; omega)).1, fun h2 h3 h4 hf => by
         rcases Int.lt_or_le h2 h with q | q
         · exact (hl.resolve_right (fun q => by have := q.1.1; omega)).2 h2 h3 q hf
         · rw [show h2 = (h : Int) from by have h5 : h2 < ((h + 1 : Nat) : Int) := h4; omega] at hf; exact (hnf g67) hf⟩)⟩
    ·
     refine t_skip rfl rfl rfl (t_pick_f rfl rfl rfl rfl (t_nil' (hK54 _ _ (c_cond_f rfl (c_exit (hK44 _ _ (c_seq fun K124 hK124 => (c_region (t_move rfl rfl rfl (t_nil' (hK124 _ _ (c_cond rfl (fun g67 => ?_) (fun g67 => ?_)))))))))))))
     ·
      refine c_region (t_move rfl rfl rfl (t_assign rfl rfl rfl (t_nil' (hK42 _ _ (c_region (t_move rfl rfl rfl (t_ari rfl rfl rfl rfl rfl (by omega) (t_assign rfl rfl rfl (t_nil' ?_)))))))))
      exact hK34 (h + 1, (h : Int)) _ _ (by show (most + 1 - (h + 1)).toNat < (most + 1 - h).toNat; omega) ⟨rfl, rfl, rfl, rfl, rfl, rfl, rfl, rfl, trivial⟩ ⟨(u36.next u48 (fun _ _ h => h.elim)), (by show ((h + 1 : Nat) : Int) ≤ most + 1; omega), (.inr ⟨⟨by omega, (fun j2 hj2 => hfr g67 j2 (by omega)), fun h2 h3 h4 => (hl.resolve_right (fun q => by have := q.1.1; omega)).2 h2 h3 h4⟩, by omega⟩)⟩
     ·
      refine c_skip (hK42 _ _ (c_region (t_move rfl rfl rfl (t_ari rfl rfl rfl rfl rfl (by omega) (t_assign rfl rfl rfl (t_nil' ?_))))))
      exact hK34 (h + 1, l) _ _ (by show (most + 1 - (h + 1)).toNat < (most + 1 - h).toNat; omega) ⟨rfl, rfl, rfl, rfl, rfl, rfl, rfl, rfl, trivial⟩ ⟨(u36.next u48 (fun _ _ h => h.elim)), (by show ((h + 1 : Nat) : Int) ≤ most + 1; omega), (.inl ⟨(hl.resolve_right (fun q => by have := q.1.1; omega)).1, fun h2 h3 h4 hf => by
        rcases Int.lt_or_le h2 h with q | q
        · exact (hl.resolve_right (fun q => by have := q.1.1; omega)).2 h2 h3 q hf
        · rw [show h2 = (h : Int) from by have h5 : h2 < ((h + 1 : Nat) : Int) := h4; omega] at hf; exact (hnf g67) hf⟩)⟩
   ·
    refine c_exit (hK32 _ _ (c_seq fun K125 hK125 => (c_seq fun K126 hK126 => (c_region (t_move rfl rfl rfl (t_cmp rfl rfl rfl rfl rfl (t_nil' (hK126 _ _ (c_condp rfl (fun g70 => ?_) (fun g70 => ?_))))))))))
    ·
     refine c_seq fun K127 hK127 => (c_region (t_move rfl rfl rfl (t_assign rfl rfl rfl (t_assign rfl rfl rfl (t_assign rfl rfl rfl (t_nil' (hK127 _ _ (c_ret (f_ret3 (v1 := .slice none 0 0) (v2 := .int .i64 (y : Int)) (v3 := .int .i64 7) Try.results27 rfl rfl rfl ?_)))))))))
     exact ⟨⟨_, _, _, none, 0, 0, rfl, Sl.nil _ _ _ _ _ _, .inr ⟨y, os, rfl, rfl, rfl, (by rw [List.length_map]; omega), hle, fun h2 h3 h4 => (hl.resolve_right (fun q => by have := q.1.1; omega)).2 h2 h3 (by omega)⟩, (fun h => absurd h (Nat.lt_irrefl _))⟩, E39⟩
    ·
     refine c_skip (hK125 _ _ ?_)
     have hlR : LeastR (vs.map HVoy.v) ns os y l ∧ l ≤ most := hl.resolve_left (fun q => by have := q.1; omega)
     have hl0 := hlR.1.1
     have D133 := (hacc1.keep u36 (fun _ h => h))
     have D153 := (hacc2.keep u36 (fun _ h => h))
     refine WC.weak [(0, .slice av vs.length cv), (1, .slice an ns.length cn), (2, .int .i64 most), (9, .slice ao1 os.length c1), (10, .slice ao2 us.length c2), (11, .int .i64 (y : Int)), (12, .int .i64 l)] ⟨rfl, rfl, rfl, rfl, rfl, rfl, rfl, trivial⟩ (c_drawn follows 15 [some (72, some (.slice ao1 os.length c1)), some (73, some (.int .i64 l)), some (74, none), some (75, none), some (76, some (.slice ao2 us.length c2)), some (77, some (.slice av vs.length cv)), some (78, some (.int .i64 (y : Int))), some (79, some (.pointer (some ⟨bv, ov + y * 5, none⟩))), some (80, some (.agg #[.int .i64 ((nth vs y).v.st.lo), .int .i64 ((nth vs y).v.st.hi), .slice ((nth vs y).ao) (((nth vs y).v.runs).length) ((nth vs y).cap), .int .i64 ((nth vs y).v.len), .int .i64 ((nth vs y).v.wid)])), some (81, some (.int .i64 l)), some (82, some (.agg #[.int .i64 ((heldV (nth vs y).v l).st.lo), .int .i64 ((heldV (nth vs y).v l).st.hi), .slice ((nth vs y).ao) (((heldV (nth vs y).v l).runs).length) ((nth vs y).cap), .int .i64 ((heldV (nth vs y).v l).len), .int .i64 ((heldV (nth vs y).v l).wid)])), some (83, none), some (84, none), some (9, none), some (10, none)] [[],[],[1],[0,2],[],[],[],[5,6],[7],[],[8,9,3],[10],[4,11,10],[3,12,0,1,2,3],[12,13,0,1,2,3,4,5,6,7,8,9,10,11,12,13]] (fun D ρ w => Upd (fun i => (i = g1 ∧ bk3 ≤ i) ∨ (i = g2 ∧ bk8 ≤ i)) w35 w ∧ (D 3 = false → Acc encI 1 3 bk3 w ao1 g1 c1 os) ∧ (D 12 = false → Acc encHVoy 5 48 bk8 w ao2 g2 c2 us) ∧ (D 2 = true → ∃ bk128, ρ 2 = .slice (some ⟨bk128, 0, none⟩) 1 1 ∧ w35.heap.size ≤ bk128 ∧ Blk w bk128 3 [.int .i64 l]) ∧ (D 3 = true → ∃ ao135 gb136 cp137, ρ 3 = .slice ao135 (((os ++ [l])).length) cp137 ∧ Acc encI 1 3 bk3 w ao135 gb136 cp137 (os ++ [l]) ∧ (gb136 = g1 ∨ w35.heap.size ≤ gb136) ∧ (D 13 = true → ρ 13 = .slice ao135 (((os ++ [l])).length) cp137)) ∧ (D 11 = true → ∃ bk148, ρ 11 = .slice (some ⟨bk148, 0, none⟩) 1 1 ∧ w35.heap.size ≤ bk148 ∧ Blk w bk148 48 [.int .i64 ((heldV (nth vs y).v l).st.lo), .int .i64 ((heldV (nth vs y).v l).st.hi), .slice ((nth vs y).ao) (((heldV (nth vs y).v l).runs).length) ((nth vs y).cap), .int .i64 ((heldV (nth vs y).v l).len), .int .i64 ((heldV (nth vs y).v l).wid)]) ∧ (D 12 = true → ∃ ao155 gb156 cp157, ρ 12 = .slice ao155 (((us ++ [(heldRow (nth vs y) l)])).length) cp157 ∧ Acc encHVoy 5 48 bk8 w ao155 gb156 cp157 (us ++ [(heldRow (nth vs y) l)]) ∧ (gb156 = g2 ∨ w35.heap.size ≤ gb156) ∧ (∀ b m, ρ 3 = .slice (some ⟨b, 0, none⟩) (os ++ [l]).length m → b ≠ gb156) ∧ (D 14 = true → ρ 14 = .slice ao155 (((us ++ [(heldRow (nth vs y) l)])).length) cp157))) rfl rfl rfl (by kernel_rfl) (by kernel_rfl) ⟨(Upd.drew _).to, (fun _ => D133.keep (Upd.drew _) (fun _ h => h)), (fun _ => D153.keep (Upd.drew _) (fun _ h => h)), (fun h => by cases h), (fun h => by cases h), (fun h => by cases h), (fun h => by cases h)⟩ ⟨?_, ?_, ?_, ?_, ?_, ?_, ?_, ?_, ?_, ?_, ?_, ?_, ?_, ?_, ?_, trivial⟩ ?_)
     · exact pz rfl rfl rfl rfl fun _ _ _ h => h
     · exact pz rfl rfl rfl rfl fun _ _ _ h => h
     ·
      intro D ρ w162 hcD hnD hdD hW
      obtain ⟨u163, C164, C165, F166, F167, F168, F169⟩ := hW
      have zu163 := u163.size
      refine ⟨_, kf_fr [73], fun Lr => ?_⟩
      refine t_bslice (ps := [(0, .int .i64 l)]) (cs := [.int .i64 l]) (e := 3) rfl rfl ⟨rfl, rfl⟩ (fun w => by kernel_rfl) (fun bk171 w172 ebk171 sbk171 B173 u174 => ?_)
      have zu174 := u174.size
      exact dzn rfl ⟨(u163.next u174 (fun _ _ h => h.elim)), (fun h => ((C164 h).keep u174 (fun _ h => h))), (fun h => ((C165 h).keep u174 (fun _ h => h))), (fun _ => ⟨bk171, rfl, (by omega), (by show Blk w172 bk171 3 [.int .i64 l]; exact B173)⟩), (fun h => absurd ((hcD.late 3 hnD rfl).symm.trans h) (by decide)), (fun h => absurd ((hcD.late 11 (hcD.late 10 (hcD.late 3 hnD rfl) rfl) rfl).symm.trans h) (by decide)), (fun h => absurd ((hcD.late 12 (hcD.late 10 (hcD.late 3 hnD rfl) rfl) rfl).symm.trans h) (by decide))⟩
     ·
      intro D ρ w176 hcD hnD hdD hW
      obtain ⟨u177, C178, C179, F180, F181, F182, F183⟩ := hW
      have zu177 := u177.size
      have C185 := C178 hnD
      obtain ⟨bk128, e186, gebk128, B187⟩ := F180 (hdD 2 rfl)
      refine ⟨[(72, .slice ao1 os.length c1), (74, .slice (some ⟨bk128, 0, none⟩) 1 1)], ⟨fi 0 rfl rfl rfl, fi 2 rfl rfl e186.symm, trivial⟩, fun Lr => ?_⟩
      refine t_append (z := .int .i64 0) (bytes := 8) (k := 1) (base := bk3) l Try.underlying27 (by kernel_rfl) rfl (by decide) (fun _ => rfl) (by intro x; simp [encI, Value.oneCell']) rfl rfl rfl rfl C185 B187 (by omega) (by omega) (by decide) (fun ao188 gb189 cp190 w191 A192 u193 gegb189 lngb189 => ?_)
      have zu193 := u193.size
      have lt_gb189 := A192.lt
      exact dzn rfl ⟨(u177.next u193 (fun i hi (h : (i = g1 ∧ bk3 ≤ i)) => show (i = g1 ∧ bk3 ≤ i) ∨ (i = g2 ∧ bk8 ≤ i) by first | omega | assumption)), (fun h => by cases h), (fun h => ((C179 h).keep u193 (fun _ => show ¬ ((g2 = g1 ∧ bk3 ≤ g2)) by first | omega | assumption))), (fun h => by obtain ⟨b, e, hge, hB⟩ := F180 h; exact ⟨b, e, hge, (hB.keep u193 (show ¬ ((b = g1 ∧ bk3 ≤ b)) by first | omega | assumption))⟩), (fun _ => ⟨ao188, gb189, cp190, rfl, A192, (by omega), (fun h => absurd ((hcD.late 13 hnD rfl).symm.trans h) (by decide))⟩), (fun h => absurd ((hcD.late 11 (hcD.late 10 hnD rfl) rfl).symm.trans h) (by decide)), (fun h => absurd ((hcD.late 12 (hcD.late 10 hnD rfl) rfl).symm.trans h) (by decide))⟩
     · exact pz rfl rfl rfl rfl fun _ _ _ h => h
     · exact pz rfl rfl rfl rfl fun _ _ _ h => h
     · exact pz rfl rfl rfl rfl fun _ _ _ h => h
     ·
      intro D ρ w195 hcD hnD hdD hW
      obtain ⟨u196, C197, C198, F199, F200, F201, F202⟩ := hW
      have zu196 := u196.size
      have E203 := E39.next u196 (fun i hi (h : (i = g1 ∧ bk3 ≤ i) ∨ (i = g2 ∧ bk8 ≤ i)) => show False by first | omega | assumption)
      refine ⟨_, kf_fr [77, 78], fun Lr => ?_⟩
      have i204 : y < vs.length := (by omega)
      refine t_index (j := y) Try.underlying34 Try.sizeOf48 rfl rfl rfl rfl ((hs.keep E203 (fun _ h => h)).addr (by omega)) rfl i204 ?_
      exact dz rfl ⟨u196, C197, C198, F199, F200, F201, F202⟩
     ·
      intro D ρ w205 hcD hnD hdD hW
      obtain ⟨u206, C207, C208, F209, F210, F211, F212⟩ := hW
      have zu206 := u206.size
      have E213 := E39.next u206 (fun i hi (h : (i = g1 ∧ bk3 ≤ i) ∨ (i = g2 ∧ bk8 ≤ i)) => show False by first | omega | assumption)
      refine ⟨_, kf_fr [79], fun Lr => ?_⟩
      refine t_loadN (vs := [.int .i64 ((nth vs y).v.st.lo), .int .i64 ((nth vs y).v.st.hi), .slice ((nth vs y).ao) (((nth vs y).v.runs).length) ((nth vs y).cap), .int .i64 ((nth vs y).v.len), .int .i64 ((nth vs y).v.wid)]) Try.isAgg48 Try.sizeOf48 rfl rfl rfl (((hs.keep E213 (fun _ h => h)).at_ y (by omega)).sub 0 5) rfl ?_
      exact dz rfl ⟨u206, C207, C208, F209, F210, F211, F212⟩
     · exact pz rfl rfl rfl rfl fun _ _ _ h => h
     ·
      intro D ρ w214 hcD hnD hdD hW
      obtain ⟨u215, C216, C217, F218, F219, F220, F221⟩ := hW
      have zu215 := u215.size
      refine ⟨_, kf_fr [80, 81], fun Lr => ?_⟩
      refine t_call (vs := [.agg #[.int .i64 ((nth vs y).v.st.lo), .int .i64 ((nth vs y).v.st.hi), .slice ((nth vs y).ao) (((nth vs y).v.runs).length) ((nth vs y).cap), .int .i64 ((nth vs y).v.len), .int .i64 ((nth vs y).v.wid)], .int .i64 l]) own65 rfl rfl rfl rfl (rHeld_c (nth vs y).v (nth vs y).ao (nth vs y).b (nth vs y).o (nth vs y).cap l _ (okVoy_rng (hokv (nth vs y) (nth_mem (by omega)))).st (by omega)) (fun v223 w224 r226 => ?_)
      obtain ⟨rfl, u225⟩ := r226
      have zu225 := u225.size
      exact dz rfl ⟨(u215.next u225 (fun _ _ h => h.elim)), (fun h => absurd ((hdD 3 rfl).symm.trans h) (by decide)), (fun h => ((C217 h).keep u225 (fun _ h => h))), (fun h => by obtain ⟨b, e, hge, hB⟩ := F218 h; exact ⟨b, e, hge, (hB.keep u225 (fun h => h))⟩), (fun h => by obtain ⟨ao135, gb136, cp137, e, hA, hg, hZ13⟩ := F219 h; exact ⟨ao135, gb136, cp137, e, (hA.keep u225 (fun _ h => h)), hg, hZ13⟩), (fun h => absurd ((hcD.late 11 hnD rfl).symm.trans h) (by decide)), (fun h => absurd ((hcD.late 12 hnD rfl).symm.trans h) (by decide))⟩
     ·
      intro D ρ w228 hcD hnD hdD hW
      obtain ⟨u229, C230, C231, F232, F233, F234, F235⟩ := hW
      have zu229 := u229.size
      refine ⟨_, kf_fr [82], fun Lr => ?_⟩
      refine t_bslice (ps := [(0, .agg #[.int .i64 ((heldV (nth vs y).v l).st.lo), .int .i64 ((heldV (nth vs y).v l).st.hi), .slice ((nth vs y).ao) (((heldV (nth vs y).v l).runs).length) ((nth vs y).cap), .int .i64 ((heldV (nth vs y).v l).len), .int .i64 ((heldV (nth vs y).v l).wid)])]) (cs := [.int .i64 ((heldV (nth vs y).v l).st.lo), .int .i64 ((heldV (nth vs y).v l).st.hi), .slice ((nth vs y).ao) (((heldV (nth vs y).v l).runs).length) ((nth vs y).cap), .int .i64 ((heldV (nth vs y).v l).len), .int .i64 ((heldV (nth vs y).v l).wid)]) (e := 48) rfl rfl ⟨rfl, rfl⟩ (fun w => by kernel_rfl) (fun bk237 w238 ebk237 sbk237 B239 u240 => ?_)
      have zu240 := u240.size
      exact dzn rfl ⟨(u229.next u240 (fun _ _ h => h.elim)), (fun h => absurd ((hcD 10 (hdD 10 rfl) 3 (memB_iff.1 rfl)).symm.trans h) (by decide)), (fun h => ((C231 h).keep u240 (fun _ h => h))), (fun h => by obtain ⟨b, e, hge, hB⟩ := F232 h; exact ⟨b, e, hge, (hB.keep u240 (fun h => h))⟩), (fun h => by obtain ⟨ao135, gb136, cp137, e, hA, hg, hZ13⟩ := F233 h; exact ⟨ao135, gb136, cp137, e, (hA.keep u240 (fun _ h => h)), hg, hZ13⟩), (fun _ => ⟨bk237, rfl, (by omega), (by show Blk w238 bk237 48 [.int .i64 ((heldV (nth vs y).v l).st.lo), .int .i64 ((heldV (nth vs y).v l).st.hi), .slice ((nth vs y).ao) (((heldV (nth vs y).v l).runs).length) ((nth vs y).cap), .int .i64 ((heldV (nth vs y).v l).len), .int .i64 ((heldV (nth vs y).v l).wid)]; exact B239)⟩), (fun h => absurd ((hcD.late 12 hnD rfl).symm.trans h) (by decide))⟩
     ·
      intro D ρ w242 hcD hnD hdD hW
      obtain ⟨u243, C244, C245, F246, F247, F248, F249⟩ := hW
      have zu243 := u243.size
      have C251 := C245 hnD
      obtain ⟨bk148, e252, gebk148, B253⟩ := F248 (hdD 11 rfl)
      refine ⟨[(76, .slice ao2 us.length c2), (83, .slice (some ⟨bk148, 0, none⟩) 1 1)], ⟨fi 4 rfl rfl rfl, fi 11 rfl rfl e252.symm, trivial⟩, fun Lr => ?_⟩
      refine t_append (z := .agg #[.int .i64 0, .int .i64 0, .slice none 0 0, .int .i64 0, .int .i64 0]) (bytes := 56) (k := 5) (base := bk8) (heldRow (nth vs y) l) Try.underlying34 (by kernel_rfl) rfl (by decide) (fun _ => rfl) (by intro x; simp [encHVoy, Value.oneCell']) rfl rfl rfl rfl C251 B253 (by omega) (by omega) (by decide) (fun ao254 gb255 cp256 w257 A258 u259 gegb255 lngb255 => ?_)
      have zu259 := u259.size
      have lt_gb255 := A258.lt
      exact dzn rfl ⟨(u243.next u259 (fun i hi (h : (i = g2 ∧ bk8 ≤ i)) => show (i = g1 ∧ bk3 ≤ i) ∨ (i = g2 ∧ bk8 ≤ i) by first | omega | assumption)), (fun h => absurd ((hcD 10 (hdD 10 rfl) 3 (memB_iff.1 rfl)).symm.trans h) (by decide)), (fun h => by cases h), (fun h => by obtain ⟨b, e, hge, hB⟩ := F246 h; exact ⟨b, e, hge, (hB.keep u259 (show ¬ ((b = g2 ∧ bk8 ≤ b)) by first | omega | assumption))⟩), (fun h => by obtain ⟨ao135, gb136, cp137, e, hA, hg, hZ13⟩ := F247 h; exact ⟨ao135, gb136, cp137, e, (hA.keep u259 (fun _ => show ¬ ((gb136 = g2 ∧ bk8 ≤ gb136)) by first | omega | assumption)), hg, hZ13⟩), (fun h => by obtain ⟨b, e, hge, hB⟩ := F248 h; exact ⟨b, e, hge, (hB.keep u259 (show ¬ ((b = g2 ∧ bk8 ≤ b)) by first | omega | assumption))⟩), (fun _ => ⟨ao254, gb255, cp256, rfl, A258, (by omega), (fun b m hb => by change ρ 3 = _ at hb; obtain ⟨ao_, g_, cap_, e_, hA_, hg_⟩ := F247 (hcD 10 (hdD 10 rfl) 3 (memB_iff.1 rfl)); have h1 := hA_.addr_snoc; have h2 := hA_.lt; rw [e_, h1] at hb; simp at hb; omega), (fun h => absurd ((hcD.late 14 hnD rfl).symm.trans h) (by decide))⟩)⟩
     ·
      intro D ρ w261 hcD hnD hdD hW
      obtain ⟨u262, C263, C264, F265, F266, F267, F268⟩ := hW
      have zu262 := u262.size
      obtain ⟨ao135, gb136, cp137, e270, A271, h272, k275⟩ := F266 (hdD 3 rfl)
      refine ⟨[(75, .slice ao135 (((os ++ [l])).length) cp137)], ⟨fi 3 rfl rfl e270.symm, trivial⟩, fun Lr => ?_⟩
      refine t_assign rfl rfl rfl ?_
      exact dzn rfl ⟨u262, C263, C264, F265, (fun _ => ⟨ao135, gb136, cp137, e270, A271, h272, (fun _ => rfl)⟩), F267, F268⟩
     ·
      intro D ρ w276 hcD hnD hdD hW
      obtain ⟨u277, C278, C279, F280, F281, F282, F283⟩ := hW
      have zu277 := u277.size
      obtain ⟨ao155, gb156, cp157, e285, A286, h287, x288, k290⟩ := F283 (hdD 12 rfl)
      refine ⟨[(84, .slice ao155 (((us ++ [(heldRow (nth vs y) l)])).length) cp157)], ⟨fi 12 rfl rfl e285.symm, trivial⟩, fun Lr => ?_⟩
      refine t_assign rfl rfl rfl ?_
      exact dzn rfl ⟨u277, C278, C279, F280, F281, F282, (fun _ => ⟨ao155, gb156, cp157, e285, A286, h287, x288, (fun _ => rfl)⟩)⟩
     intro ρ w291 hW
     obtain ⟨u292, C293, C294, F295, F296, F297, F298⟩ := hW
     have zu292 := u292.size
     clear C293
     obtain ⟨ao135, gb136, cp137, e301, A302, gegb136, kz13⟩ := F296 rfl
     have lt_gb136 := A302.lt
     clear C294
     obtain ⟨ao155, gb156, cp157, e304, A305, gegb156, xtgb156, kz14⟩ := F298 rfl
     have lt_gb156 := A305.lt
     have hne2 : gb136 ≠ gb156 := xtgb156 _ _ (e301.trans (by rw [A302.addr_snoc]))
     refine QK.weak [(0, .slice av vs.length cv), (1, .slice an ns.length cn), (2, .int .i64 most), (9, .slice ao135 (((os ++ [l])).length) cp137), (10, .slice ao155 (((us ++ [(heldRow (nth vs y) l)])).length) cp157), (11, .int .i64 (y : Int))] ⟨rfl, rfl, rfl, (look_nd (j := 13) rfl rfl rfl (kz13 rfl)), (look_nd (j := 14) rfl rfl rfl (kz14 rfl)), rfl, trivial⟩ (hK30 _ _ (c_region (t_move rfl rfl rfl (t_ari rfl rfl rfl rfl rfl (by omega) (t_assign rfl rfl rfl (t_nil' ?_))))))
     exact hK16 (y + 1, ao135, gb136, cp137, (os ++ [l]), ao155, gb156, cp157, (us ++ [(heldRow (nth vs y) l)])) _ _ (by show vs.length - (y + 1) < vs.length - y; omega) ⟨rfl, rfl, rfl, rfl, rfl, rfl, trivial⟩ ⟨((u18.next u36 (fun _ _ h => h.elim)).next u292 (fun i hi (h : (i = g1 ∧ bk3 ≤ i) ∨ (i = g2 ∧ bk8 ≤ i)) => show i = bk3 ∨ i = bk8 by first | omega | assumption)), (by show y + 1 ≤ vs.length; omega), (by show (os ++ [l]).length = y + 1; simp [hol]), (by show (us ++ [_]).length = y + 1; simp [hul]), (rows_snoc hul hol hus), (least_snoc hol hle hlR.1 hlR.2), A302, A305, hne2⟩
  ·
   refine t_skip rfl rfl rfl (t_skip rfl rfl rfl (t_pick_f rfl rfl rfl rfl (t_nil' (hK41 _ _ (c_cond_f rfl (c_exit (hK32 _ _ (c_seq fun K306 hK306 => (c_seq fun K307 hK307 => (c_region (t_move rfl rfl rfl (t_cmp rfl rfl rfl rfl rfl (t_nil' (hK307 _ _ (c_condp rfl (fun g70 => ?_) (fun g70 => ?_))))))))))))))))
   ·
    refine c_seq fun K308 hK308 => (c_region (t_move rfl rfl rfl (t_assign rfl rfl rfl (t_assign rfl rfl rfl (t_assign rfl rfl rfl (t_nil' (hK308 _ _ (c_ret (f_ret3 (v1 := .slice none 0 0) (v2 := .int .i64 (y : Int)) (v3 := .int .i64 7) Try.results27 rfl rfl rfl ?_)))))))))
    exact ⟨⟨_, _, _, none, 0, 0, rfl, Sl.nil _ _ _ _ _ _, .inr ⟨y, os, rfl, rfl, rfl, (by rw [List.length_map]; omega), hle, fun h2 h3 h4 => (hl.resolve_right (fun q => by have := q.1.1; omega)).2 h2 h3 (by omega)⟩, (fun h => absurd h (Nat.lt_irrefl _))⟩, E39⟩
   ·
    refine c_skip (hK306 _ _ ?_)
    have hlR : LeastR (vs.map HVoy.v) ns os y l ∧ l ≤ most := hl.resolve_left (fun q => by have := q.1; omega)
    have hl0 := hlR.1.1
    have D314 := (hacc1.keep u36 (fun _ h => h))
    have D334 := (hacc2.keep u36 (fun _ h => h))
    refine WC.weak [(0, .slice av vs.length cv), (1, .slice an ns.length cn), (2, .int .i64 most), (9, .slice ao1 os.length c1), (10, .slice ao2 us.length c2), (11, .int .i64 (y : Int)), (12, .int .i64 l)] ⟨rfl, rfl, rfl, rfl, rfl, rfl, rfl, trivial⟩ (c_drawn follows 15 [some (72, some (.slice ao1 os.length c1)), some (73, some (.int .i64 l)), some (74, none), some (75, none), some (76, some (.slice ao2 us.length c2)), some (77, some (.slice av vs.length cv)), some (78, some (.int .i64 (y : Int))), some (79, some (.pointer (some ⟨bv, ov + y * 5, none⟩))), some (80, some (.agg #[.int .i64 ((nth vs y).v.st.lo), .int .i64 ((nth vs y).v.st.hi), .slice ((nth vs y).ao) (((nth vs y).v.runs).length) ((nth vs y).cap), .int .i64 ((nth vs y).v.len), .int .i64 ((nth vs y).v.wid)])), some (81, some (.int .i64 l)), some (82, some (.agg #[.int .i64 ((heldV (nth vs y).v l).st.lo), .int .i64 ((heldV (nth vs y).v l).st.hi), .slice ((nth vs y).ao) (((heldV (nth vs y).v l).runs).length) ((nth vs y).cap), .int .i64 ((heldV (nth vs y).v l).len), .int .i64 ((heldV (nth vs y).v l).wid)])), some (83, none), some (84, none), some (9, none), some (10, none)] [[],[],[1],[0,2],[],[],[],[5,6],[7],[],[8,9,3],[10],[4,11,10],[3,12,0,1,2,3],[12,13,0,1,2,3,4,5,6,7,8,9,10,11,12,13]] (fun D ρ w => Upd (fun i => (i = g1 ∧ bk3 ≤ i) ∨ (i = g2 ∧ bk8 ≤ i)) w35 w ∧ (D 3 = false → Acc encI 1 3 bk3 w ao1 g1 c1 os) ∧ (D 12 = false → Acc encHVoy 5 48 bk8 w ao2 g2 c2 us) ∧ (D 2 = true → ∃ bk309, ρ 2 = .slice (some ⟨bk309, 0, none⟩) 1 1 ∧ w35.heap.size ≤ bk309 ∧ Blk w bk309 3 [.int .i64 l]) ∧ (D 3 = true → ∃ ao316 gb317 cp318, ρ 3 = .slice ao316 (((os ++ [l])).length) cp318 ∧ Acc encI 1 3 bk3 w ao316 gb317 cp318 (os ++ [l]) ∧ (gb317 = g1 ∨ w35.heap.size ≤ gb317) ∧ (D 13 = true → ρ 13 = .slice ao316 (((os ++ [l])).length) cp318)) ∧ (D 11 = true → ∃ bk329, ρ 11 = .slice (some ⟨bk329, 0, none⟩) 1 1 ∧ w35.heap.size ≤ bk329 ∧ Blk w bk329 48 [.int .i64 ((heldV (nth vs y).v l).st.lo), .int .i64 ((heldV (nth vs y).v l).st.hi), .slice ((nth vs y).ao) (((heldV (nth vs y).v l).runs).length) ((nth vs y).cap), .int .i64 ((heldV (nth vs y).v l).len), .int .i64 ((heldV (nth vs y).v l).wid)]) ∧ (D 12 = true → ∃ ao336 gb337 cp338, ρ 12 = .slice ao336 (((us ++ [(heldRow (nth vs y) l)])).length) cp338 ∧ Acc encHVoy 5 48 bk8 w ao336 gb337 cp338 (us ++ [(heldRow (nth vs y) l)]) ∧ (gb337 = g2 ∨ w35.heap.size ≤ gb337) ∧ (∀ b m, ρ 3 = .slice (some ⟨b, 0, none⟩) (os ++ [l]).length m → b ≠ gb337) ∧ (D 14 = true → ρ 14 = .slice ao336 (((us ++ [(heldRow (nth vs y) l)])).length) cp338))) rfl rfl rfl (by kernel_rfl) (by kernel_rfl) ⟨(Upd.drew _).to, (fun _ => D314.keep (Upd.drew _) (fun _ h => h)), (fun _ => D334.keep (Upd.drew _) (fun _ h => h)), (fun h => by cases h), (fun h => by cases h), (fun h => by cases h), (fun h => by cases h)⟩ ⟨?_, ?_, ?_, ?_, ?_, ?_, ?_, ?_, ?_, ?_, ?_, ?_, ?_, ?_, ?_, trivial⟩ ?_)
    · exact pz rfl rfl rfl rfl fun _ _ _ h => h
    · exact pz rfl rfl rfl rfl fun _ _ _ h => h
    ·
     intro D ρ w343 hcD hnD hdD hW
     obtain ⟨u344, C345, C346, F347, F348, F349, F350⟩ := hW
     have zu344 := u344.size
     refine ⟨_, kf_fr [73], fun Lr => ?_⟩
     refine t_bslice (ps := [(0, .int .i64 l)]) (cs := [.int .i64 l]) (e := 3) rfl rfl ⟨rfl, rfl⟩ (fun w => by kernel_rfl) (fun bk352 w353 ebk352 sbk352 B354 u355 => ?_)
     have zu355 := u355.size
     exact dzn rfl ⟨(u344.next u355 (fun _ _ h => h.elim)), (fun h => ((C345 h).keep u355 (fun _ h => h))), (fun h => ((C346 h).keep u355 (fun _ h => h))), (fun _ => ⟨bk352, rfl, (by omega), (by show Blk w353 bk352 3 [.int .i64 l]; exact B354)⟩), (fun h => absurd ((hcD.late 3 hnD rfl).symm.trans h) (by decide)), (fun h => absurd ((hcD.late 11 (hcD.late 10 (hcD.late 3 hnD rfl) rfl) rfl).symm.trans h) (by decide)), (fun h => absurd ((hcD.late 12 (hcD.late 10 (hcD.late 3 hnD rfl) rfl) rfl).symm.trans h) (by decide))⟩
    ·
     intro D ρ w357 hcD hnD hdD hW
     obtain ⟨u358, C359, C360, F361, F362, F363, F364⟩ := hW
     have zu358 := u358.size
     have C366 := C359 hnD
     obtain ⟨bk309, e367, gebk309, B368⟩ := F361 (hdD 2 rfl)
     refine ⟨[(72, .slice ao1 os.length c1), (74, .slice (some ⟨bk309, 0, none⟩) 1 1)], ⟨fi 0 rfl rfl rfl, fi 2 rfl rfl e367.symm, trivial⟩, fun Lr => ?_⟩
     refine t_append (z := .int .i64 0) (bytes := 8) (k := 1) (base := bk3) l Try.underlying27 (by kernel_rfl) rfl (by decide) (fun _ => rfl) (by intro x; simp [encI, Value.oneCell']) rfl rfl rfl rfl C366 B368 (by omega) (by omega) (by decide) (fun ao369 gb370 cp371 w372 A373 u374 gegb370 lngb370 => ?_)
     have zu374 := u374.size
     have lt_gb370 := A373.lt
     exact dzn rfl ⟨(u358.next u374 (fun i hi (h : (i = g1 ∧ bk3 ≤ i)) => show (i = g1 ∧ bk3 ≤ i) ∨ (i = g2 ∧ bk8 ≤ i) by first | omega | assumption)), (fun h => by cases h), (fun h => ((C360 h).keep u374 (fun _ => show ¬ ((g2 = g1 ∧ bk3 ≤ g2)) by first | omega | assumption))), (fun h => by obtain ⟨b, e, hge, hB⟩ := F361 h; exact ⟨b, e, hge, (hB.keep u374 (show ¬ ((b = g1 ∧ bk3 ≤ b)) by first | omega | assumption))⟩), (fun _ => ⟨ao369, gb370, cp371, rfl, A373, (by omega), (fun h => absurd ((hcD.late 13 hnD rfl).symm.trans h) (by decide))⟩), (fun h => absurd ((hcD.late 11 (hcD.late 10 hnD rfl) rfl).symm.trans h) (by decide)), (fun h => absurd ((hcD.late 12 (hcD.late 10 hnD rfl) rfl).symm.trans h) (by decide))⟩
    · exact pz rfl rfl rfl rfl fun _ _ _ h => h
    · exact pz rfl rfl rfl rfl fun _ _ _ h => h
    · exact pz rfl rfl rfl rfl fun _ _ _ h => h
    ·
     intro D ρ w376 hcD hnD hdD hW
     obtain ⟨u377, C378, C379, F380, F381, F382, F383⟩ := hW
     have zu377 := u377.size
     have E384 := E39.next u377 (fun i hi (h : (i = g1 ∧ bk3 ≤ i) ∨ (i = g2 ∧ bk8 ≤ i)) => show False by first | omega | assumption)
     refine ⟨_, kf_fr [77, 78], fun Lr => ?_⟩
     have i385 : y < vs.length := (by omega)
     refine t_index (j := y) Try.underlying34 Try.sizeOf48 rfl rfl rfl rfl ((hs.keep E384 (fun _ h => h)).addr (by omega)) rfl i385 ?_
     exact dz rfl ⟨u377, C378, C379, F380, F381, F382, F383⟩
    ·
     intro D ρ w386 hcD hnD hdD hW
     obtain ⟨u387, C388, C389, F390, F391, F392, F393⟩ := hW
     have zu387 := u387.size
     have E394 := E39.next u387 (fun i hi (h : (i = g1 ∧ bk3 ≤ i) ∨ (i = g2 ∧ bk8 ≤ i)) => show False by first | omega | assumption)
     refine ⟨_, kf_fr [79], fun Lr => ?_⟩
     refine t_loadN (vs := [.int .i64 ((nth vs y).v.st.lo), .int .i64 ((nth vs y).v.st.hi), .slice ((nth vs y).ao) (((nth vs y).v.runs).length) ((nth vs y).cap), .int .i64 ((nth vs y).v.len), .int .i64 ((nth vs y).v.wid)]) Try.isAgg48 Try.sizeOf48 rfl rfl rfl (((hs.keep E394 (fun _ h => h)).at_ y (by omega)).sub 0 5) rfl ?_
     exact dz rfl ⟨u387, C388, C389, F390, F391, F392, F393⟩
    · exact pz rfl rfl rfl rfl fun _ _ _ h => h
    ·
     intro D ρ w395 hcD hnD hdD hW
     obtain ⟨u396, C397, C398, F399, F400, F401, F402⟩ := hW
     have zu396 := u396.size
     refine ⟨_, kf_fr [80, 81], fun Lr => ?_⟩
     refine t_call (vs := [.agg #[.int .i64 ((nth vs y).v.st.lo), .int .i64 ((nth vs y).v.st.hi), .slice ((nth vs y).ao) (((nth vs y).v.runs).length) ((nth vs y).cap), .int .i64 ((nth vs y).v.len), .int .i64 ((nth vs y).v.wid)], .int .i64 l]) own65 rfl rfl rfl rfl (rHeld_c (nth vs y).v (nth vs y).ao (nth vs y).b (nth vs y).o (nth vs y).cap l _ (okVoy_rng (hokv (nth vs y) (nth_mem (by omega)))).st (by omega)) (fun v404 w405 r407 => ?_)
     obtain ⟨rfl, u406⟩ := r407
     have zu406 := u406.size
     exact dz rfl ⟨(u396.next u406 (fun _ _ h => h.elim)), (fun h => absurd ((hdD 3 rfl).symm.trans h) (by decide)), (fun h => ((C398 h).keep u406 (fun _ h => h))), (fun h => by obtain ⟨b, e, hge, hB⟩ := F399 h; exact ⟨b, e, hge, (hB.keep u406 (fun h => h))⟩), (fun h => by obtain ⟨ao316, gb317, cp318, e, hA, hg, hZ13⟩ := F400 h; exact ⟨ao316, gb317, cp318, e, (hA.keep u406 (fun _ h => h)), hg, hZ13⟩), (fun h => absurd ((hcD.late 11 hnD rfl).symm.trans h) (by decide)), (fun h => absurd ((hcD.late 12 hnD rfl).symm.trans h) (by decide))⟩
    ·
     intro D ρ w409 hcD hnD hdD hW
     obtain ⟨u410, C411, C412, F413, F414, F415, F416⟩ := hW
     have zu410 := u410.size
     refine ⟨_, kf_fr [82], fun Lr => ?_⟩
     refine t_bslice (ps := [(0, .agg #[.int .i64 ((heldV (nth vs y).v l).st.lo), .int .i64 ((heldV (nth vs y).v l).st.hi), .slice ((nth vs y).ao) (((heldV (nth vs y).v l).runs).length) ((nth vs y).cap), .int .i64 ((heldV (nth vs y).v l).len), .int .i64 ((heldV (nth vs y).v l).wid)])]) (cs := [.int .i64 ((heldV (nth vs y).v l).st.lo), .int .i64 ((heldV (nth vs y).v l).st.hi), .slice ((nth vs y).ao) (((heldV (nth vs y).v l).runs).length) ((nth vs y).cap), .int .i64 ((heldV (nth vs y).v l).len), .int .i64 ((heldV (nth vs y).v l).wid)]) (e := 48) rfl rfl ⟨rfl, rfl⟩ (fun w => by kernel_rfl) (fun bk418 w419 ebk418 sbk418 B420 u421 => ?_)
     have zu421 := u421.size
     exact dzn rfl ⟨(u410.next u421 (fun _ _ h => h.elim)), (fun h => absurd ((hcD 10 (hdD 10 rfl) 3 (memB_iff.1 rfl)).symm.trans h) (by decide)), (fun h => ((C412 h).keep u421 (fun _ h => h))), (fun h => by obtain ⟨b, e, hge, hB⟩ := F413 h; exact ⟨b, e, hge, (hB.keep u421 (fun h => h))⟩), (fun h => by obtain ⟨ao316, gb317, cp318, e, hA, hg, hZ13⟩ := F414 h; exact ⟨ao316, gb317, cp318, e, (hA.keep u421 (fun _ h => h)), hg, hZ13⟩), (fun _ => ⟨bk418, rfl, (by omega), (by show Blk w419 bk418 48 [.int .i64 ((heldV (nth vs y).v l).st.lo), .int .i64 ((heldV (nth vs y).v l).st.hi), .slice ((nth vs y).ao) (((heldV (nth vs y).v l).runs).length) ((nth vs y).cap), .int .i64 ((heldV (nth vs y).v l).len), .int .i64 ((heldV (nth vs y).v l).wid)]; exact B420)⟩), (fun h => absurd ((hcD.late 12 hnD rfl).symm.trans h) (by decide))⟩
    ·
     intro D ρ w423 hcD hnD hdD hW
     obtain ⟨u424, C425, C426, F427, F428, F429, F430⟩ := hW
     have zu424 := u424.size
     have C432 := C426 hnD
     obtain ⟨bk329, e433, gebk329, B434⟩ := F429 (hdD 11 rfl)
     refine ⟨[(76, .slice ao2 us.length c2), (83, .slice (some ⟨bk329, 0, none⟩) 1 1)], ⟨fi 4 rfl rfl rfl, fi 11 rfl rfl e433.symm, trivial⟩, fun Lr => ?_⟩
     refine t_append (z := .agg #[.int .i64 0, .int .i64 0, .slice none 0 0, .int .i64 0, .int .i64 0]) (bytes := 56) (k := 5) (base := bk8) (heldRow (nth vs y) l) Try.underlying34 (by kernel_rfl) rfl (by decide) (fun _ => rfl) (by intro x; simp [encHVoy, Value.oneCell']) rfl rfl rfl rfl C432 B434 (by omega) (by omega) (by decide) (fun ao435 gb436 cp437 w438 A439 u440 gegb436 lngb436 => ?_)
     have zu440 := u440.size
     have lt_gb436 := A439.lt
     exact dzn rfl ⟨(u424.next u440 (fun i hi (h : (i = g2 ∧ bk8 ≤ i)) => show (i = g1 ∧ bk3 ≤ i) ∨ (i = g2 ∧ bk8 ≤ i) by first | omega | assumption)), (fun h => absurd ((hcD 10 (hdD 10 rfl) 3 (memB_iff.1 rfl)).symm.trans h) (by decide)), (fun h => by cases h), (fun h => by obtain ⟨b, e, hge, hB⟩ := F427 h; exact ⟨b, e, hge, (hB.keep u440 (show ¬ ((b = g2 ∧ bk8 ≤ b)) by first | omega | assumption))⟩), (fun h => by obtain ⟨ao316, gb317, cp318, e, hA, hg, hZ13⟩ := F428 h; exact ⟨ao316, gb317, cp318, e, (hA.keep u440 (fun _ => show ¬ ((gb317 = g2 ∧ bk8 ≤ gb317)) by first | omega | assumption)), hg, hZ13⟩), (fun h => by obtain ⟨b, e, hge, hB⟩ := F429 h; exact ⟨b, e, hge, (hB.keep u440 (show ¬ ((b = g2 ∧ bk8 ≤ b)) by first | omega | assumption))⟩), (fun _ => ⟨ao435, gb436, cp437, rfl, A439, (by omega), (fun b m hb => by change ρ 3 = _ at hb; obtain ⟨ao_, g_, cap_, e_, hA_, hg_⟩ := F428 (hcD 10 (hdD 10 rfl) 3 (memB_iff.1 rfl)); have h1 := hA_.addr_snoc; have h2 := hA_.lt; rw [e_, h1] at hb; simp at hb; omega), (fun h => absurd ((hcD.late 14 hnD rfl).symm.trans h) (by decide))⟩)⟩
    ·
     intro D ρ w442 hcD hnD hdD hW
     obtain ⟨u443, C444, C445, F446, F447, F448, F449⟩ := hW
     have zu443 := u443.size
     obtain ⟨ao316, gb317, cp318, e451, A452, h453, k456⟩ := F447 (hdD 3 rfl)
     refine ⟨[(75, .slice ao316 (((os ++ [l])).length) cp318)], ⟨fi 3 rfl rfl e451.symm, trivial⟩, fun Lr => ?_⟩
     refine t_assign rfl rfl rfl ?_
     exact dzn rfl ⟨u443, C444, C445, F446, (fun _ => ⟨ao316, gb317, cp318, e451, A452, h453, (fun _ => rfl)⟩), F448, F449⟩
    ·
     intro D ρ w457 hcD hnD hdD hW
     obtain ⟨u458, C459, C460, F461, F462, F463, F464⟩ := hW
     have zu458 := u458.size
     obtain ⟨ao336, gb337, cp338, e466, A467, h468, x469, k471⟩ := F464 (hdD 12 rfl)
     refine ⟨[(84, .slice ao336 (((us ++ [(heldRow (nth vs y) l)])).length) cp338)], ⟨fi 12 rfl rfl e466.symm, trivial⟩, fun Lr => ?_⟩
     refine t_assign rfl rfl rfl ?_
     exact dzn rfl ⟨u458, C459, C460, F461, F462, F463, (fun _ => ⟨ao336, gb337, cp338, e466, A467, h468, x469, (fun _ => rfl)⟩)⟩
    intro ρ w472 hW
    obtain ⟨u473, C474, C475, F476, F477, F478, F479⟩ := hW
    have zu473 := u473.size
    clear C474
    obtain ⟨ao316, gb317, cp318, e482, A483, gegb317, kz13⟩ := F477 rfl
    have lt_gb317 := A483.lt
    clear C475
    obtain ⟨ao336, gb337, cp338, e485, A486, gegb337, xtgb337, kz14⟩ := F479 rfl
    have lt_gb337 := A486.lt
    have hne2 : gb317 ≠ gb337 := xtgb337 _ _ (e482.trans (by rw [A483.addr_snoc]))
    refine QK.weak [(0, .slice av vs.length cv), (1, .slice an ns.length cn), (2, .int .i64 most), (9, .slice ao316 (((os ++ [l])).length) cp318), (10, .slice ao336 (((us ++ [(heldRow (nth vs y) l)])).length) cp338), (11, .int .i64 (y : Int))] ⟨rfl, rfl, rfl, (look_nd (j := 13) rfl rfl rfl (kz13 rfl)), (look_nd (j := 14) rfl rfl rfl (kz14 rfl)), rfl, trivial⟩ (hK30 _ _ (c_region (t_move rfl rfl rfl (t_ari rfl rfl rfl rfl rfl (by omega) (t_assign rfl rfl rfl (t_nil' ?_))))))
    exact hK16 (y + 1, ao316, gb317, cp318, (os ++ [l]), ao336, gb337, cp338, (us ++ [(heldRow (nth vs y) l)])) _ _ (by show vs.length - (y + 1) < vs.length - y; omega) ⟨rfl, rfl, rfl, rfl, rfl, rfl, trivial⟩ ⟨((u18.next u36 (fun _ _ h => h.elim)).next u473 (fun i hi (h : (i = g1 ∧ bk3 ≤ i) ∨ (i = g2 ∧ bk8 ≤ i)) => show i = bk3 ∨ i = bk8 by first | omega | assumption)), (by show y + 1 ≤ vs.length; omega), (by show (os ++ [l]).length = y + 1; simp [hol]), (by show (us ++ [_]).length = y + 1; simp [hul]), (rows_snoc hul hol hus), (least_snoc hol hle hlR.1 hlR.2), A483, A486, hne2⟩
 ·
  refine c_exit (hK13 _ _ (c_seq fun K487 hK487 => (c_region (t_move rfl rfl rfl (t_assign rfl rfl rfl (t_assign rfl rfl rfl (t_assign rfl rfl rfl (t_nil' (hK487 _ _ (c_ret (f_ret3 (v1 := .slice ao1 os.length c1) (v2 := .int .i64 0) (v3 := .int .i64 0) Try.results27 rfl rfl rfl ?_)))))))))))
  have hiv : y = vs.length := by omega
  exact ⟨⟨os, _, _, _, _, _, rfl, (hacc1.sl (fun _ => rfl)), .inl ⟨rfl, rfl, (by rw [List.length_map]; omega), fun j hj => hle j (by rw [List.length_map] at hj; omega)⟩, (fun hp => Nat.le_trans (by omega) ((hacc1).ge hp))⟩, E27⟩

end Go.Proofs.Ytmicjleiheoieaa
