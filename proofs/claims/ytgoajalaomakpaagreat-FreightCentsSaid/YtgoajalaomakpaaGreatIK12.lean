/-
  Part 12 of the proof: contracts and plain laws. Conditions: none.
-/
import Derived.Test.YtgoajalaomakpaaGreatIK11
namespace Go.Proofs.YtgoajalaomakpaaGreat
open Go Go.RowKit Go.Proofs.Tryz
set_option maxHeartbeats 4000000 in
theorem Balance_c (cs : List HC) (ac : Option Addr) (bc oc cc : Nat) (fr : List Fre) (af : Option Addr) (bf of_ cf : Nat) (l : List Msg) (al : Option Addr) (bl ol cl : Nat) (w0 : World) (hc : Sl encHC 11 w0 ac bc oc cs) (hcl : cs.length ≤ 1000000) (hcw : ∀ h ∈ cs, Sl encLow 2 w0 h.ao h.g h.o h.ws ∧ h.ws.length ≤ 1000000) (hfr : Sl encFre 2 w0 af bf of_ fr) (hfl : fr.length ≤ 1000000) (hl : Sl encMsg 6 w0 al bl ol l) (hll : l.length ≤ 1000000) (hpos : 0 < w0.heap.size) :
    CallsV Tryz.prog 22 [.slice ac cs.length cc, .slice af fr.length cf, .slice al l.length cl] w0 (fun v w' => (∃ b e ao g cp, v = .tuple #[.slice ao (List.length b) cp, .int .i64 e] ∧ (Sl encI 1 w' ao g 0 b ∧ (0 < b.length → w0.heap.size ≤ g)) ∧ BalR cs fr l b e) ∧ Ext w0 w') := by
 have hcw9 : ∀ h ∈ cs, 0 < h.ws.length → h.g < w0.heap.size := fun h hh => (hcw h hh).1.lt
 refine f_n func22 ?_
 refine go ?_
 refine x_b fun bk2 w3 ebk2 sbk2 B4 u5 => ?_
 have E6 := Sc.mk ((Upd.refl (fun _ => False) w0).nx u5)
 refine go ?_
 refine q_p (fun g18 => ?_) fun g18 => ?_
 ·
  refine go ?_
  refine f_ret2 (v1 := .slice none 0 0) (v2 := .int .i64 5) results22 rfl rfl ?_
  exact ⟨⟨[], 5, none, 0, 0, rfl, ⟨Sl.nil _ _ _ _ _ _, fun h9 => absurd h9 (Nat.lt_irrefl 0)⟩, .inl ⟨by omega, rfl, rfl⟩⟩, u_d⟩
 refine go ?_
 refine x_c func70 rfl rfl (containsC_c encHC (fun _ => rfl) (fun h => decide (chkCh h.v h.ws ≠ 0)) 71 [] cs ac bc oc cc _ own71 (fun x hx w u => balance1_c x.v x.ws x.ao x.g x.o x.cp w ((hcw x hx).1.keep (Upd.nx E6.u u) (fun _ h => h)) (hcw x hx).2) (hc.keep E6.u (fun _ h => h)) (by omega)) ?_
 rintro _ w12 ⟨rfl, u13⟩ zu13
 have E15 := Sc.mk (E6.u.nx u13)
 refine go ?_
 refine q_b (fun g22 => ?_) fun g22 => ?_
 ·
  refine go ?_
  refine f_ret2 (v1 := .slice none 0 0) (v2 := .int .i64 2) results22 rfl rfl ?_
  exact ⟨⟨[], 2, none, 0, 0, rfl, ⟨Sl.nil _ _ _ _ _ _, fun h9 => absurd h9 (Nat.lt_irrefl 0)⟩, .inr (.inl ⟨by omega, g22, rfl, rfl⟩)⟩, u_d⟩
 have hca : ∀ h ∈ cs, chkCh h.v h.ws = 0 := fun h hh => by
   cases hd : decide (chkCh h.v h.ws ≠ 0)
   · simpa using hd
   · exact absurd (show (cs.any fun h => decide (chkCh h.v h.ws ≠ 0)) = true from List.any_eq_true.2 ⟨h, hh, hd⟩) (by rw [g22]; exact Bool.false_ne_true)
 refine go ?_
 refine x_c func73 rfl rfl (checkFree_c fr af bf of_ cf _ (hfr.keep E15.u (fun _ h => h)) hfl) ?_
 rintro _ w20 ⟨rfl, u21⟩ zu21
 have E23 := Sc.mk (E15.u.nx u21)
 refine go ?_
 refine q_p (fun g28 => ?_) fun g28 => ?_
 ·
  refine go ?_
  refine f_ret2 (v1 := .slice none 0 0) (v2 := .int .i64 (chkFr fr)) results22 rfl rfl ?_
  exact ⟨⟨[], _, none, 0, 0, rfl, ⟨Sl.nil _ _ _ _ _ _, fun h9 => absurd h9 (Nat.lt_irrefl 0)⟩, .inr (.inr ⟨by omega, g22, .inl ⟨by omega, rfl, rfl⟩⟩)⟩, u_d⟩
 have hf0 : chkFr fr = 0 := by omega
 have hf5 := chkFr_len hf0
 refine go ?_
 refine x_c func74 rfl rfl (read_c l al bl ol cl _ (hl.keep E23.u (fun _ h => h)) hll (by omega)) ?_
 rintro _ w28 ⟨⟨oRd, aRd, gRd, cRd, eRd, rfl, hRd, hRR⟩, u29⟩ zu29
 have E31 := Sc.mk (E23.u.nx u29)
 have lt_gRd := hRd.lt
 refine go ?_
 refine q_p (fun g35 => ?_) fun g35 => ?_
 ·
  refine go ?_
  refine f_ret2 (v1 := .slice none 0 0) (v2 := .int .i64 eRd) results22 rfl rfl ?_
  exact ⟨⟨[], _, none, 0, 0, rfl, ⟨Sl.nil _ _ _ _ _ _, fun h9 => absurd h9 (Nat.lt_irrefl 0)⟩, .inr (.inr ⟨by omega, g22, .inr ⟨hf0, .inl ⟨by omega, rfl, oRd, hRR⟩⟩⟩)⟩, u_d⟩
 obtain rfl : eRd = 0 := by omega
 have hrd9 := hRR.facts
 have hrd8 := rdE_ok hrd9.2.2
 refine go ?_
 refine t_mkfunc (vs := []) (us := [.pointer (some ⟨bk2, 0, none⟩)]) rfl rfl rfl rfl ?_
 have B36 := (((B4.kx u13).kx u21).kx u29)
 refine x_c func75 rfl rfl (containsM_c encMsg (fun _ => rfl) (fun m => decide ((cs.length : Int) ≤ m.c)) 76 [.pointer (some ⟨bk2, 0, none⟩)] l al bl ol cl _ own76 (fun x hx w u => balance2_c x ac cs.length cc bk2 w (B36.keep u (fun h => h))) (hl.keep E31.u (fun _ h => h)) hll) ?_
 rintro _ w38 ⟨rfl, u39⟩ zu39
 refine go ?_
 refine q_b (fun g39 => ?_) fun g39 => ?_
 ·
  refine go ?_
  refine f_ret2 (v1 := .slice none 0 0) (v2 := .int .i64 7) results22 rfl rfl ?_
  exact ⟨⟨[], 7, none, 0, 0, rfl, ⟨Sl.nil _ _ _ _ _ _, fun h9 => absurd h9 (Nat.lt_irrefl 0)⟩, .inr (.inr ⟨by omega, g22, .inr ⟨hf0, .inr ⟨oRd, hRR, .inl ⟨g39, rfl, rfl⟩⟩⟩⟩)⟩, u_d⟩
 refine go ?_
 refine t_makeI (n := 100) underlying37 (by kernel_rfl) rfl rfl rfl rfl rfl (by omega) (fun bk44 w45 ebk44 sbk44 B46 u47 => ?_)
 refine go ?_
 refine x_l2 (fun i => i = bk44 ∨ w45.heap.size ≤ i) [1, 2, 9, 11, 44, 45] (fun (k : Nat) (b : List Int) => [(46, .int .i64 (k : Int))]) (fun k b w => Blk w bk44 3 (b.map (Value.int .i64)) ∧ (k ≤ cs.length) ∧ (BaK cs fr l oRd k b) ∧ (b.length = 100) ∧ (BdB (400000000000000 * (k : Int)) b)) (fun k b => cs.length - k) 0 (List.replicate 100 0) ⟨B46, (Nat.zero_le _), rfl, rfl, (fun j hj => by rw [nth_eq hj, List.getElem_replicate]; omega)⟩ ?_
 rintro k b w52 ⟨I54, hk, hBa, hbl, hbd⟩ u53 zu53 K51 hK51
 have E55 := Sc.mk (((E31.u.nx u39).nx u47).next u53 (fun i hi (h : i = bk44 ∨ w45.heap.size ≤ i) => show False by first | omega | assumption))
 refine go ?_
 refine q_p (fun g47 => ?_) fun g47 => ?_
 ·
  have hck := hca (nth cs k) (nth_mem (by omega))
  have hcr := okCh_rng hck
  refine go ?_
  refine g_i k (hc.keep E55.u (fun _ h => h)) (fun _ => ?_)
  refine go ?_
  refine x_n fun bk61 w62 ebk61 sbk61 B63 u64 => ?_
  refine x_n fun bk66 w67 ebk66 sbk66 B68 u69 => ?_
  refine x_s fun w71 sw71 B73 u72 => ?_
  refine x_s fun w75 sw75 B77 u76 => ?_
  refine go ?_
  refine t_mkfunc (vs := []) (us := [.pointer (some ⟨bk61, 0, none⟩)]) rfl rfl rfl rfl ?_
  refine x_n fun bk80 w81 ebk80 sbk80 B82 u83 => ?_
  refine x_s fun w85 sw85 B87 u86 => ?_
  have E88 := Sc.mk ((((((E55.u.nx u64).nx u69).next u72 (fun i hi h => by omega)).next u76 (fun i hi h => by omega)).nx u83).next u86 (fun i hi h => by omega))
  refine go ?_
  have B91 := (((B73.keep u76 (by omega)).kx u83).keep u86 (by omega))
  refine x_c func75 rfl rfl (containsM_c encMsg (fun _ => rfl) (fun m => decide (m.c = (k : Int))) 77 [.pointer (some ⟨bk61, 0, none⟩)] l al bl ol cl _ own77 (fun x hx w u => balance3_c x (k : Int) bk61 w (B91.keep u (fun h => h))) (hl.keep E88.u (fun _ h => h)) hll) ?_
  rintro _ w93 ⟨rfl, u94⟩ zu94
  refine go ?_
  refine q_b (fun g55 => ?_) fun g55 => ?_
  ·
   refine go ?_
   have B97 := (((((((I54.kx u64).kx u69).keep u72 (by omega)).keep u76 (by omega)).kx u83).keep u86 (by omega)).kx u94)
   exact hK51 (k + 1) b ⟨B97, (by omega), ⟨b, hBa, .inl ⟨by unfold hasC; simpa using g55, rfl⟩⟩, hbl, (fun j hj => by have := hbd j hj; omega)⟩ (hu := (((((((u53.nx u64).nx u69).next u72 (fun i hi (h : i = bk61) => show i = bk44 ∨ w45.heap.size ≤ i by first | omega | assumption)).next u76 (fun i hi (h : i = bk66) => show i = bk44 ∨ w45.heap.size ≤ i by first | omega | assumption)).nx u83).next u86 (fun i hi (h : i = bk80) => show i = bk44 ∨ w45.heap.size ≤ i by first | omega | assumption)).nx u94))
  refine go ?_
  refine c_drawnM follows (fun _ => False) (.look 0 (.look 1 (.look 2 (.act 3 (.act 4 (.act 5 (.act 6 (.look 7 (.look 8 (.look 9 (.look 10 (.look 11 .done))))) .stop) .stop) .stop) (.act 4 (.act 3 (.act 5 (.act 6 (.look 7 (.look 8 (.look 9 (.look 10 (.look 11 .done))))) .stop) .stop) .stop) .stop))))) (by kernel_rfl) fun w99 u100 => ?_
  have zu100 := u100.size
  have E101 := Sc.mk ((E88.u.nx u94).nx u100)
  refine go ?_
  refine s_or ?_ ?_
  ·
   refine go ?_
   have D102 := (((((((((((hRd.keep u39 (fun _ h => h)).keep u47 (fun _ h => h)).keep u53 (fun hb => show ¬ (gRd = bk44 ∨ w45.heap.size ≤ gRd) by first | omega | assumption)).keep u64 (fun _ h => h)).keep u69 (fun _ h => h)).keep u72 (fun hb => show ¬ (gRd = bk61) by first | omega | assumption)).keep u76 (fun hb => show ¬ (gRd = bk66) by first | omega | assumption)).keep u83 (fun _ h => h)).keep u86 (fun hb => show ¬ (gRd = bk80) by first | omega | assumption)).keep u94 (fun _ h => h)).keep u100 (fun _ h => h))
   refine x_c func80 rfl rfl (cloneM_c oRd aRd gRd 0 cRd _ (D102.sl (fun _ => rfl)) (by have := hrd9.2.1; omega) (by omega)) ?_
   rintro _ w105 ⟨⟨aoQ103, gQ103, cQ103, rfl, haQ103⟩, u106⟩ zu106
   have lt_gQ103 := haQ103.lt
   refine go ?_
   refine t_mkfunc (vs := []) (us := [.pointer (some ⟨bk80, 0, none⟩)]) rfl rfl rfl rfl ?_
   refine go ?_
   have B109 := (((B87.kx u94).kx u100).kx u106)
   have B110 := (((B91.kx u94).kx u100).kx u106)
   have hnf1 := B109.lt
   have hnf2 := B110.lt
   have hrl9 := hrd9.2.1
   refine x_c func79 rfl rfl (deleteM_c (fun m => !decide (m.c = (k : Int))) 81 [.pointer (some ⟨bk80, 0, none⟩)] oRd aoQ103 gQ103 cQ103 w99.heap.size _ own81 (fun x hx w u => balance4_c x (k : Int) bk80 bk61 w (B109.keep u (by omega)) (B110.keep u (by omega))) haQ103 (by omega) (by omega)) ?_
   rintro _ w112 ⟨⟨rfl, haD⟩, u113⟩ zu113
   have E115 := Sc.mk ((E101.u.nx u106).next u113 (fun i hi h => by omega))
   obtain ⟨hof1, hof2⟩ := ofC_facts hRR k
   have lt_gQ103 := haD.lt
   refine go ?_
   refine x_c func78 rfl rfl (open_c (nth cs k).v (nth cs k).ws (nth cs k).ao (nth cs k).g (nth cs k).o (nth cs k).cp fr af bf of_ cf (ofC oRd k) aoQ103 gQ103 0 cQ103 _ (hfr.keep E115.u (fun _ h => h)) (by omega) (haD.sl (fun _ => rfl)) (by omega) hof1 (by omega)) ?_
   rintro _ w117 ⟨⟨pO, eO, rfl, hO⟩, u118⟩ zu118
   refine go ?_
   refine q_p (fun g67 => ?_) fun g67 => ?_
   ·
    refine go ?_
    refine f_ret2 (v1 := .slice none 0 0) (v2 := .int .i64 eO) results22 rfl rfl ?_
    obtain ⟨_, hE⟩ := hO.resolve_right (fun h => g67 h.1)
    exact ⟨⟨[], _, none, 0, 0, rfl, ⟨Sl.nil _ _ _ _ _ _, fun h9 => absurd h9 (Nat.lt_irrefl 0)⟩, .inr (.inr ⟨by omega, g22, .inr ⟨hf0, .inr ⟨oRd, hRR, .inr ⟨g39, .inl ⟨by omega, rfl, k, b, by omega, hBa, by unfold hasC; simpa using g55, .inl hE⟩⟩⟩⟩⟩)⟩, u_d⟩
   obtain ⟨e0, px, r, aE, gE, cE, ex, rfl, hB, hM, hA, hOk⟩ := hO.resolve_left (fun h => by have := h.2; rcases this with ⟨q, _⟩ | ⟨q, _⟩ | ⟨q, _⟩ <;> omega)
   subst e0
   obtain ⟨⟨n1, en, hn1, hn4, hb1, hb4, hexb, hexl⟩, hmv⟩ := hOk.dataC hRR hf0
   have hBl := hB.lt
   have lt_gE := hA.lt
   refine go ?_
   refine x_c func82 rfl rfl (bill_c px (nth cs k).v (nth cs k).ws (nth cs k).ao (nth cs k).g (nth cs k).o (nth cs k).cp r aE gE cE w112.heap.size ex (onS (ofC oRd k) (ofC oRd k).length) n1 en _ hB hM hA (by omega) hn1 hn4 hb1 hb4 hck hexb hexl hmv (fun h => by have := hcw9 (nth cs k) (nth_mem (by omega)) h; omega) ((hcw (nth cs k) (nth_mem (by omega))).1.keep (E115.u.nx u118) (fun h h9 => by have := hcw9 (nth cs k) (nth_mem (by omega)) h; omega)) (hcw (nth cs k) (nth_mem (by omega))).2) ?_
   rintro _ w126 ⟨⟨bB, eB, rfl, hBR⟩, u127⟩ zu127
   refine go ?_
   refine x_n fun bk130 w131 ebk130 sbk130 B132 u133 => ?_
   refine x_s fun w135 sw135 B137 u136 => ?_
   refine go ?_
   refine q_p (fun g75 => ?_) fun g75 => ?_
   ·
    refine go ?_
    refine f_ret2 (v1 := .slice none 0 0) (v2 := .int .i64 eB) results22 rfl rfl ?_
    exact ⟨⟨[], _, none, 0, 0, rfl, ⟨Sl.nil _ _ _ _ _ _, fun h9 => absurd h9 (Nat.lt_irrefl 0)⟩, .inr (.inr ⟨by omega, g22, .inr ⟨hf0, .inr ⟨oRd, hRR, .inr ⟨g39, .inl ⟨by omega, rfl, k, b, by omega, hBa, by unfold hasC; simpa using g55, .inr ⟨bB, ex, n1, en, hOk, hn1, hn4, hBR⟩⟩⟩⟩⟩⟩)⟩, u_d⟩
   obtain rfl : eB = 0 := by omega
   have hbb9 := hBR.bd hck hb1 hb4 hexb hmv
   have q1 := hbd (nth cs k).v.s.toNat (by omega)
   have s1 := hbd.set (i := (nth cs k).v.s.toNat) (v := nth b (nth cs k).v.s.toNat - bB.t) (C := 400000000000000 * (k : Int) + 100000000000000) (by omega) (by omega)
   have q2 := s1 (nth cs k).v.c.toNat (by rw [List.length_set]; omega)
   have s2 := s1.set (i := (nth cs k).v.c.toNat) (v := nth (b.set (nth cs k).v.s.toNat (nth b (nth cs k).v.s.toNat - bB.t)) (nth cs k).v.c.toNat + (bB.t - bB.c)) (C := 400000000000000 * (k : Int) + 300000000000000) (by omega) (by omega)
   have hl1 : (b.set (nth cs k).v.s.toNat (nth b (nth cs k).v.s.toNat - bB.t)).length = 100 := by rw [List.length_set]; exact hbl
   have hl2 : ((b.set (nth cs k).v.s.toNat (nth b (nth cs k).v.s.toNat - bB.t)).set (nth cs k).v.c.toNat (nth (b.set (nth cs k).v.s.toNat (nth b (nth cs k).v.s.toNat - bB.t)) (nth cs k).v.c.toNat + (bB.t - bB.c))).length = 100 := by rw [List.length_set, List.length_set]; exact hbl
   have q3 := s2 (nth cs k).v.k.toNat (by omega)
   refine go ?_
   refine c_drawnM follows (fun i => i = bk44) (OTl [0, 2, 4, 6, 10, 12, 9, 14, 16, 19]) (by kernel_rfl) fun w143 u144 => ?_
   have zu144 := u144.size
   refine go ?_
   have B146 := (((((((((((((((I54.kx u64).kx u69).keep u72 (by omega)).keep u76 (by omega)).kx u83).keep u86 (by omega)).kx u94).kx u100).kx u106).keep u113 (by omega)).kx u118).keep u127 (by omega)).kx u133).keep u136 (by omega)).kx u144)
   refine y_i ((nth cs k).v.s.toNat) (SlI.own B146) (fun _ => ?_) (hj := (by omega))
   refine go ?_
   refine y_i ((nth cs k).v.s.toNat) (SlI.own B146) (fun _ => ?_) (hj := (by omega))
   refine go ?_
   refine t_storeI (ls := b) (v := ((nth b ((nth cs k).v.s.toNat)) - bB.t)) ((nth cs k).v.s.toNat) sizeOf3 rfl rfl rfl B146 (by omega) (fun w149 sw149 B151 u150 => ?_)
   refine go ?_
   refine c_drawnM follows (fun i => i = bk44) (OTl [0, 2, 4, 6, 10, 12, 14, 16, 18, 9, 20, 22, 25]) (by kernel_rfl) fun w154 u155 => ?_
   have zu155 := u155.size
   refine go ?_
   have B157 := (B151.kx u155)
   refine y_i ((nth cs k).v.c.toNat) (SlI.own B157) (fun _ => ?_) (hj := (by omega))
   refine go ?_
   refine y_i ((nth cs k).v.c.toNat) (SlI.own B157) (fun _ => ?_) (hj := (by omega))
   refine go ?_
   refine t_storeI (ls := (b.set ((nth cs k).v.s.toNat) ((nth b ((nth cs k).v.s.toNat)) - bB.t))) (v := ((nth (b.set ((nth cs k).v.s.toNat) ((nth b ((nth cs k).v.s.toNat)) - bB.t)) ((nth cs k).v.c.toNat)) + (bB.t - bB.c))) ((nth cs k).v.c.toNat) sizeOf3 rfl rfl rfl B157 (by omega) (fun w160 sw160 B162 u161 => ?_)
   refine go ?_
   refine c_drawnM follows (fun i => i = bk44) (OTl [0, 2, 4, 6, 10, 12, 9, 14, 16, 19]) (by kernel_rfl) fun w164 u165 => ?_
   have zu165 := u165.size
   refine go ?_
   have B167 := (B162.kx u165)
   refine y_i ((nth cs k).v.k.toNat) (SlI.own B167) (fun _ => ?_) (hj := (by omega))
   refine go ?_
   refine y_i ((nth cs k).v.k.toNat) (SlI.own B167) (fun _ => ?_) (hj := (by omega))
   refine go ?_
   refine t_storeI (ls := ((b.set ((nth cs k).v.s.toNat) ((nth b ((nth cs k).v.s.toNat)) - bB.t)).set ((nth cs k).v.c.toNat) ((nth (b.set ((nth cs k).v.s.toNat) ((nth b ((nth cs k).v.s.toNat)) - bB.t)) ((nth cs k).v.c.toNat)) + (bB.t - bB.c)))) (v := ((nth ((b.set ((nth cs k).v.s.toNat) ((nth b ((nth cs k).v.s.toNat)) - bB.t)).set ((nth cs k).v.c.toNat) ((nth (b.set ((nth cs k).v.s.toNat) ((nth b ((nth cs k).v.s.toNat)) - bB.t)) ((nth cs k).v.c.toNat)) + (bB.t - bB.c))) ((nth cs k).v.k.toNat)) + bB.c)) ((nth cs k).v.k.toNat) sizeOf3 rfl rfl rfl B167 (by omega) (fun w170 sw170 B172 u171 => ?_)
   refine go ?_
   exact hK51 (k + 1) (balN b (nth cs k).v bB) ⟨B172, (by omega), ⟨b, hBa, .inr ⟨by unfold hasC; simpa using g55, bB, ⟨ex, n1, en, hOk, hn1, hn4, hBR⟩, rfl⟩⟩, (by unfold balN; rw [List.length_set]; exact hl2), (s2.set (by omega) (by omega))⟩ (hu := ((((((((((((((((((((u53.nx u64).nx u69).next u72 (fun i hi (h : i = bk61) => show i = bk44 ∨ w45.heap.size ≤ i by first | omega | assumption)).next u76 (fun i hi (h : i = bk66) => show i = bk44 ∨ w45.heap.size ≤ i by first | omega | assumption)).nx u83).next u86 (fun i hi (h : i = bk80) => show i = bk44 ∨ w45.heap.size ≤ i by first | omega | assumption)).nx u94).nx u100).nx u106).next u113 (fun i hi (h : (i = gQ103 ∧ w99.heap.size ≤ i)) => show i = bk44 ∨ w45.heap.size ≤ i by first | omega | assumption)).nx u118).next u127 (fun i hi (h : (i = gE ∧ w112.heap.size ≤ i)) => show i = bk44 ∨ w45.heap.size ≤ i by first | omega | assumption)).nx u133).next u136 (fun i hi (h : i = bk130) => show i = bk44 ∨ w45.heap.size ≤ i by first | omega | assumption)).nx u144).next u150 (fun i hi (h : i = bk44) => show i = bk44 ∨ w45.heap.size ≤ i by first | omega | assumption)).nx u155).next u161 (fun i hi (h : i = bk44) => show i = bk44 ∨ w45.heap.size ≤ i by first | omega | assumption)).nx u165).next u171 (fun i hi (h : i = bk44) => show i = bk44 ∨ w45.heap.size ≤ i by first | omega | assumption)))
  refine go ?_
  refine t_mkfunc (vs := []) (us := [.pointer (some ⟨bk80, 0, none⟩)]) rfl rfl rfl rfl ?_
  refine go ?_
  have D174 := (((((((((((hRd.keep u39 (fun _ h => h)).keep u47 (fun _ h => h)).keep u53 (fun hb => show ¬ (gRd = bk44 ∨ w45.heap.size ≤ gRd) by first | omega | assumption)).keep u64 (fun _ h => h)).keep u69 (fun _ h => h)).keep u72 (fun hb => show ¬ (gRd = bk61) by first | omega | assumption)).keep u76 (fun hb => show ¬ (gRd = bk66) by first | omega | assumption)).keep u83 (fun _ h => h)).keep u86 (fun hb => show ¬ (gRd = bk80) by first | omega | assumption)).keep u94 (fun _ h => h)).keep u100 (fun _ h => h))
  refine x_c func80 rfl rfl (cloneM_c oRd aRd gRd 0 cRd _ (D174.sl (fun _ => rfl)) (by have := hrd9.2.1; omega) (by omega)) ?_
  rintro _ w177 ⟨⟨aoQ175, gQ175, cQ175, rfl, haQ175⟩, u178⟩ zu178
  have lt_gQ175 := haQ175.lt
  refine go ?_
  have B181 := (((B87.kx u94).kx u100).kx u178)
  have B182 := (((B91.kx u94).kx u100).kx u178)
  have hnf1 := B181.lt
  have hnf2 := B182.lt
  have hrl9 := hrd9.2.1
  refine x_c func79 rfl rfl (deleteM_c (fun m => !decide (m.c = (k : Int))) 81 [.pointer (some ⟨bk80, 0, none⟩)] oRd aoQ175 gQ175 cQ175 w99.heap.size _ own81 (fun x hx w u => balance4_c x (k : Int) bk80 bk61 w (B181.keep u (by omega)) (B182.keep u (by omega))) haQ175 (by omega) (by omega)) ?_
  rintro _ w184 ⟨⟨rfl, haD⟩, u185⟩ zu185
  have E187 := Sc.mk ((E101.u.nx u178).next u185 (fun i hi h => by omega))
  obtain ⟨hof1, hof2⟩ := ofC_facts hRR k
  have lt_gQ175 := haD.lt
  refine go ?_
  refine x_c func78 rfl rfl (open_c (nth cs k).v (nth cs k).ws (nth cs k).ao (nth cs k).g (nth cs k).o (nth cs k).cp fr af bf of_ cf (ofC oRd k) aoQ175 gQ175 0 cQ175 _ (hfr.keep E187.u (fun _ h => h)) (by omega) (haD.sl (fun _ => rfl)) (by omega) hof1 (by omega)) ?_
  rintro _ w189 ⟨⟨pO, eO, rfl, hO⟩, u190⟩ zu190
  refine go ?_
  refine q_p (fun g67 => ?_) fun g67 => ?_
  ·
   refine go ?_
   refine f_ret2 (v1 := .slice none 0 0) (v2 := .int .i64 eO) results22 rfl rfl ?_
   obtain ⟨_, hE⟩ := hO.resolve_right (fun h => g67 h.1)
   exact ⟨⟨[], _, none, 0, 0, rfl, ⟨Sl.nil _ _ _ _ _ _, fun h9 => absurd h9 (Nat.lt_irrefl 0)⟩, .inr (.inr ⟨by omega, g22, .inr ⟨hf0, .inr ⟨oRd, hRR, .inr ⟨g39, .inl ⟨by omega, rfl, k, b, by omega, hBa, by unfold hasC; simpa using g55, .inl hE⟩⟩⟩⟩⟩)⟩, u_d⟩
  obtain ⟨e0, px, r, aE, gE, cE, ex, rfl, hB, hM, hA, hOk⟩ := hO.resolve_left (fun h => by have := h.2; rcases this with ⟨q, _⟩ | ⟨q, _⟩ | ⟨q, _⟩ <;> omega)
  subst e0
  obtain ⟨⟨n1, en, hn1, hn4, hb1, hb4, hexb, hexl⟩, hmv⟩ := hOk.dataC hRR hf0
  have hBl := hB.lt
  have lt_gE := hA.lt
  refine go ?_
  refine x_c func82 rfl rfl (bill_c px (nth cs k).v (nth cs k).ws (nth cs k).ao (nth cs k).g (nth cs k).o (nth cs k).cp r aE gE cE w184.heap.size ex (onS (ofC oRd k) (ofC oRd k).length) n1 en _ hB hM hA (by omega) hn1 hn4 hb1 hb4 hck hexb hexl hmv (fun h => by have := hcw9 (nth cs k) (nth_mem (by omega)) h; omega) ((hcw (nth cs k) (nth_mem (by omega))).1.keep (E187.u.nx u190) (fun h h9 => by have := hcw9 (nth cs k) (nth_mem (by omega)) h; omega)) (hcw (nth cs k) (nth_mem (by omega))).2) ?_
  rintro _ w198 ⟨⟨bB, eB, rfl, hBR⟩, u199⟩ zu199
  refine go ?_
  refine x_n fun bk202 w203 ebk202 sbk202 B204 u205 => ?_
  refine x_s fun w207 sw207 B209 u208 => ?_
  refine go ?_
  refine q_p (fun g75 => ?_) fun g75 => ?_
  ·
   refine go ?_
   refine f_ret2 (v1 := .slice none 0 0) (v2 := .int .i64 eB) results22 rfl rfl ?_
   exact ⟨⟨[], _, none, 0, 0, rfl, ⟨Sl.nil _ _ _ _ _ _, fun h9 => absurd h9 (Nat.lt_irrefl 0)⟩, .inr (.inr ⟨by omega, g22, .inr ⟨hf0, .inr ⟨oRd, hRR, .inr ⟨g39, .inl ⟨by omega, rfl, k, b, by omega, hBa, by unfold hasC; simpa using g55, .inr ⟨bB, ex, n1, en, hOk, hn1, hn4, hBR⟩⟩⟩⟩⟩⟩)⟩, u_d⟩
  obtain rfl : eB = 0 := by omega
  have hbb9 := hBR.bd hck hb1 hb4 hexb hmv
  have q1 := hbd (nth cs k).v.s.toNat (by omega)
  have s1 := hbd.set (i := (nth cs k).v.s.toNat) (v := nth b (nth cs k).v.s.toNat - bB.t) (C := 400000000000000 * (k : Int) + 100000000000000) (by omega) (by omega)
  have q2 := s1 (nth cs k).v.c.toNat (by rw [List.length_set]; omega)
  have s2 := s1.set (i := (nth cs k).v.c.toNat) (v := nth (b.set (nth cs k).v.s.toNat (nth b (nth cs k).v.s.toNat - bB.t)) (nth cs k).v.c.toNat + (bB.t - bB.c)) (C := 400000000000000 * (k : Int) + 300000000000000) (by omega) (by omega)
  have hl1 : (b.set (nth cs k).v.s.toNat (nth b (nth cs k).v.s.toNat - bB.t)).length = 100 := by rw [List.length_set]; exact hbl
  have hl2 : ((b.set (nth cs k).v.s.toNat (nth b (nth cs k).v.s.toNat - bB.t)).set (nth cs k).v.c.toNat (nth (b.set (nth cs k).v.s.toNat (nth b (nth cs k).v.s.toNat - bB.t)) (nth cs k).v.c.toNat + (bB.t - bB.c))).length = 100 := by rw [List.length_set, List.length_set]; exact hbl
  have q3 := s2 (nth cs k).v.k.toNat (by omega)
  refine go ?_
  refine c_drawnM follows (fun i => i = bk44) (OTl [0, 2, 4, 6, 10, 12, 9, 14, 16, 19]) (by kernel_rfl) fun w215 u216 => ?_
  have zu216 := u216.size
  refine go ?_
  have B218 := (((((((((((((((I54.kx u64).kx u69).keep u72 (by omega)).keep u76 (by omega)).kx u83).keep u86 (by omega)).kx u94).kx u100).kx u178).keep u185 (by omega)).kx u190).keep u199 (by omega)).kx u205).keep u208 (by omega)).kx u216)
  refine y_i ((nth cs k).v.s.toNat) (SlI.own B218) (fun _ => ?_) (hj := (by omega))
  refine go ?_
  refine y_i ((nth cs k).v.s.toNat) (SlI.own B218) (fun _ => ?_) (hj := (by omega))
  refine go ?_
  refine t_storeI (ls := b) (v := ((nth b ((nth cs k).v.s.toNat)) - bB.t)) ((nth cs k).v.s.toNat) sizeOf3 rfl rfl rfl B218 (by omega) (fun w221 sw221 B223 u222 => ?_)
  refine go ?_
  refine c_drawnM follows (fun i => i = bk44) (OTl [0, 2, 4, 6, 10, 12, 14, 16, 18, 9, 20, 22, 25]) (by kernel_rfl) fun w226 u227 => ?_
  have zu227 := u227.size
  refine go ?_
  have B229 := (B223.kx u227)
  refine y_i ((nth cs k).v.c.toNat) (SlI.own B229) (fun _ => ?_) (hj := (by omega))
  refine go ?_
  refine y_i ((nth cs k).v.c.toNat) (SlI.own B229) (fun _ => ?_) (hj := (by omega))
  refine go ?_
  refine t_storeI (ls := (b.set ((nth cs k).v.s.toNat) ((nth b ((nth cs k).v.s.toNat)) - bB.t))) (v := ((nth (b.set ((nth cs k).v.s.toNat) ((nth b ((nth cs k).v.s.toNat)) - bB.t)) ((nth cs k).v.c.toNat)) + (bB.t - bB.c))) ((nth cs k).v.c.toNat) sizeOf3 rfl rfl rfl B229 (by omega) (fun w232 sw232 B234 u233 => ?_)
  refine go ?_
  refine c_drawnM follows (fun i => i = bk44) (OTl [0, 2, 4, 6, 10, 12, 9, 14, 16, 19]) (by kernel_rfl) fun w236 u237 => ?_
  have zu237 := u237.size
  refine go ?_
  have B239 := (B234.kx u237)
  refine y_i ((nth cs k).v.k.toNat) (SlI.own B239) (fun _ => ?_) (hj := (by omega))
  refine go ?_
  refine y_i ((nth cs k).v.k.toNat) (SlI.own B239) (fun _ => ?_) (hj := (by omega))
  refine go ?_
  refine t_storeI (ls := ((b.set ((nth cs k).v.s.toNat) ((nth b ((nth cs k).v.s.toNat)) - bB.t)).set ((nth cs k).v.c.toNat) ((nth (b.set ((nth cs k).v.s.toNat) ((nth b ((nth cs k).v.s.toNat)) - bB.t)) ((nth cs k).v.c.toNat)) + (bB.t - bB.c)))) (v := ((nth ((b.set ((nth cs k).v.s.toNat) ((nth b ((nth cs k).v.s.toNat)) - bB.t)).set ((nth cs k).v.c.toNat) ((nth (b.set ((nth cs k).v.s.toNat) ((nth b ((nth cs k).v.s.toNat)) - bB.t)) ((nth cs k).v.c.toNat)) + (bB.t - bB.c))) ((nth cs k).v.k.toNat)) + bB.c)) ((nth cs k).v.k.toNat) sizeOf3 rfl rfl rfl B239 (by omega) (fun w242 sw242 B244 u243 => ?_)
  refine go ?_
  exact hK51 (k + 1) (balN b (nth cs k).v bB) ⟨B244, (by omega), ⟨b, hBa, .inr ⟨by unfold hasC; simpa using g55, bB, ⟨ex, n1, en, hOk, hn1, hn4, hBR⟩, rfl⟩⟩, (by unfold balN; rw [List.length_set]; exact hl2), (s2.set (by omega) (by omega))⟩ (hu := ((((((((((((((((((((u53.nx u64).nx u69).next u72 (fun i hi (h : i = bk61) => show i = bk44 ∨ w45.heap.size ≤ i by first | omega | assumption)).next u76 (fun i hi (h : i = bk66) => show i = bk44 ∨ w45.heap.size ≤ i by first | omega | assumption)).nx u83).next u86 (fun i hi (h : i = bk80) => show i = bk44 ∨ w45.heap.size ≤ i by first | omega | assumption)).nx u94).nx u100).nx u178).next u185 (fun i hi (h : (i = gQ175 ∧ w99.heap.size ≤ i)) => show i = bk44 ∨ w45.heap.size ≤ i by first | omega | assumption)).nx u190).next u199 (fun i hi (h : (i = gE ∧ w184.heap.size ≤ i)) => show i = bk44 ∨ w45.heap.size ≤ i by first | omega | assumption)).nx u205).next u208 (fun i hi (h : i = bk202) => show i = bk44 ∨ w45.heap.size ≤ i by first | omega | assumption)).nx u216).next u222 (fun i hi (h : i = bk44) => show i = bk44 ∨ w45.heap.size ≤ i by first | omega | assumption)).nx u227).next u233 (fun i hi (h : i = bk44) => show i = bk44 ∨ w45.heap.size ≤ i by first | omega | assumption)).nx u237).next u243 (fun i hi (h : i = bk44) => show i = bk44 ∨ w45.heap.size ≤ i by first | omega | assumption)))
 refine go ?_
 refine f_ret2 (v1 := .slice (some ⟨bk44, 0, none⟩) 100 100) (v2 := .int .i64 0) results22 rfl rfl ?_
 obtain rfl : k = cs.length := by omega
 exact ⟨⟨b, 0, _, bk44, _, by rw [hbl], ⟨SlI.own I54, fun _ => by omega⟩, .inr (.inr ⟨by omega, g22, .inr ⟨hf0, .inr ⟨oRd, hRR, .inr ⟨g39, .inr ⟨rfl, hBa⟩⟩⟩⟩⟩)⟩, u_d⟩

end Go.Proofs.YtgoajalaomakpaaGreat
namespace Go.Proofs.YtgoajalaomakpaaGreat
open Go Go.RowKit

def sumN : List Bid → Int
  | [] => 0
  | x :: l => x.n + sumN l
theorem sumN_app (a b : List Bid) : sumN (a ++ b) = sumN a + sumN b := by
  induction a with
  | nil => simp [sumN]
  | cons x l ih => simp only [List.cons_append, sumN, ih]; omega
theorem sumN_perm {a b : List Bid} (h : a.Perm b) : sumN a = sumN b := by
  induction h with
  | nil => rfl
  | cons x _ ih => simp only [sumN, ih]
  | swap x y l => simp only [sumN]; omega
  | trans _ _ h1 h2 => exact h1.trans h2
theorem tonK_sum (sg p : Int) (l : List Bid) : ∀ {k : Nat}, k ≤ l.length → tonK sg p l k = sumN ((l.take k).filter fun x => trd sg x p)
  | 0, _ => by simp [tonK, sumN]
  | k + 1, h => by
    rw [tonK, take_nth (show k < l.length by omega), List.filter_append, sumN_app, ← tonK_sum sg p l (k := k) (by omega)]
    by_cases q : trd sg (nth l k) p = true <;> simp [q, sumN]
/-- What a price clears. -/
def clP (lb la : List Bid) (p : Int) : Clr := ⟨p, min (tonK (-1) p lb lb.length) (tonK 1 p la la.length), max (tonK (-1) p lb lb.length - tonK 1 p la la.length) (tonK 1 p la la.length - tonK (-1) p lb lb.length)⟩
def crs (lb la : List Bid) : List Clr := (lb ++ la).map fun x => clP lb la x.r
theorem crs_len (lb la : List Bid) : (crs lb la).length = (lb ++ la).length := by simp [crs]
theorem crs_nth {lb la : List Bid} {k : Nat} (h : k < (lb ++ la).length) : nth (crs lb la) k = clP lb la (nth (lb ++ la) k).r := by
  unfold crs
  rw [nth_eq (by simpa using h), List.getElem_map, nth_eq h]
theorem minK_mem {l : List Clr} : ∀ {k : Nat}, k < l.length → minK l k ∈ l
  | 0, h => nth_mem h
  | k + 1, h => by
    unfold minK
    split
    · exact nth_mem h
    · exact minK_mem (by omega)
def mtBest (lb la : List Bid) : Clr := minK (crs lb la) ((crs lb la).length - 1)
theorem mtBest_ok {lb la : List Bid} (hb : ∀ x ∈ lb ++ la, okBid x = true) (h : (crs lb la).length ≠ 0) : mtBest lb la = clP lb la (mtBest lb la).p ∧ (0 ≤ (mtBest lb la).p ∧ (mtBest lb la).p ≤ 1000000) := by
  have h1 : mtBest lb la ∈ crs lb la := minK_mem (by omega)
  obtain ⟨x, hx, e⟩ := List.mem_map.1 h1
  rw [← e]
  exact ⟨rfl, (okBid_ok (hb x hx)).2.2.1⟩
theorem mtBest_t {lb la : List Bid} (hb : ∀ x ∈ lb ++ la, okBid x = true) (h : (crs lb la).length ≠ 0) : (mtBest lb la).t ≤ tonK (-1) (mtBest lb la).p lb lb.length ∧ (mtBest lb la).t ≤ tonK 1 (mtBest lb la).p la la.length ∧ 0 ≤ (mtBest lb la).t := by
  have h1 := (mtBest_ok hb h).1
  have h2 := congrArg Clr.t h1
  have h3 := tonK_bd (sg := -1) (p := (mtBest lb la).p) (l := lb) (fun x hx => hb x (List.mem_append_left _ hx)) (Nat.le_refl _)
  have h4 := tonK_bd (sg := 1) (p := (mtBest lb la).p) (l := la) (fun x hx => hb x (List.mem_append_right _ hx)) (Nat.le_refl _)
  simp only [clP] at h2
  omega
/-- The state of the matching: tons that are left, both queues, the trades. -/
structure MtS where
  l : Int
  zb : List Bid
  ib : Nat
  za : List Bid
  ia : Nat
  ts : List Trd
def mtN (s : MtS) : Int := min (min s.l (nth s.zb s.ib).n) (nth s.za s.ia).n
def mtStep (s : MtS) : MtS := ⟨s.l - mtN s, takeZ s.zb s.ib (mtN s), takeI s.zb s.ib (mtN s), takeZ s.za s.ia (mtN s), takeI s.za s.ia (mtN s), s.ts ++ [⟨(nth s.zb s.ib).p, (nth s.za s.ia).p, mtN s⟩]⟩
def mtS (m : Int) (yb ya : List Bid) : Nat → MtS
  | 0 => ⟨m, yb, 0, ya, 0, []⟩
  | k + 1 => mtStep (mtS m yb ya k)
structure MtOk (nb na : Nat) (s : MtS) : Prop where
  l0 : 0 ≤ s.l
  sb : s.l ≤ sumN (s.zb.drop s.ib)
  sa : s.l ≤ sumN (s.za.drop s.ia)
  ob : ∀ x ∈ s.zb.drop s.ib, 1 ≤ x.n ∧ x.n ≤ 1000000
  oa : ∀ x ∈ s.za.drop s.ia, 1 ≤ x.n ∧ x.n ≤ 1000000
  qb : s.zb.length = nb
  qa : s.za.length = na
  ib : s.ib ≤ nb
  ia : s.ia ≤ na
  tl : 0 < s.l → s.ts.length ≤ s.ib + s.ia
theorem head_lt {zs : List Bid} {i : Nat} {l : Int} (h0 : 0 < l) (h : l ≤ sumN (zs.drop i)) : i < zs.length := by
  rcases Nat.lt_or_ge i zs.length with q | q
  · exact q
  · rw [List.drop_eq_nil_of_le q] at h; simp only [sumN] at h; omega
theorem take_ok {zs : List Bid} {i : Nat} {t : Int} (hi : i < zs.length) (h1 : ∀ x ∈ zs.drop i, 1 ≤ x.n ∧ x.n ≤ 1000000) (ht : 1 ≤ t ∧ t ≤ (nth zs i).n) :
    sumN ((takeZ zs i t).drop (takeI zs i t)) = sumN (zs.drop i) - t ∧ (∀ x ∈ (takeZ zs i t).drop (takeI zs i t), 1 ≤ x.n ∧ x.n ≤ 1000000) ∧ takeI zs i t ≤ zs.length ∧ i ≤ takeI zs i t ∧ ((nth zs i).n = t → takeI zs i t = i + 1) := by
  have e1 := drop_nth hi
  have hd : (takeZ zs i t).drop (i + 1) = zs.drop (i + 1) := by simp [takeZ, List.drop_set]
  rw [e1] at h1
  have hx := h1 (nth zs i) (by simp)
  by_cases q : (nth zs i).n - t = 0
  · have hI : takeI zs i t = i + 1 := if_pos q
    rw [hI, hd, e1]
    exact ⟨by simp only [sumN]; omega, fun x h => h1 x (List.mem_cons_of_mem _ h), by omega, by omega, fun _ => rfl⟩
  · have hI : takeI zs i t = i := if_neg q
    have e2 := drop_nth (xs := takeZ zs i t) (i := i) (by rw [takeZ_len]; exact hi)
    rw [hI, e2, takeZ_nth hi, hd, e1]
    refine ⟨by simp only [sumN, takeB]; omega, fun x h => ?_, by omega, by omega, fun h => by omega⟩
    rcases List.mem_cons.1 h with rfl | h
    · simp only [takeB]; omega
    · exact h1 x (List.mem_cons_of_mem _ h)
theorem MtOk.heads {nb na : Nat} {s : MtS} (h : MtOk nb na s) (h0 : 0 < s.l) : s.ib < s.zb.length ∧ s.ia < s.za.length ∧ (1 ≤ (nth s.zb s.ib).n ∧ (nth s.zb s.ib).n ≤ 1000000) ∧ (1 ≤ (nth s.za s.ia).n ∧ (nth s.za s.ia).n ≤ 1000000) ∧ 1 ≤ mtN s ∧ mtN s ≤ s.l ∧ mtN s ≤ (nth s.zb s.ib).n ∧ mtN s ≤ (nth s.za s.ia).n ∧ (mtN s = s.l ∨ (nth s.zb s.ib).n = mtN s ∨ (nth s.za s.ia).n = mtN s) := by
  have h1 := head_lt h0 h.sb
  have h2 := head_lt h0 h.sa
  have h3 := h.ob (nth s.zb s.ib) (by rw [drop_nth h1]; simp)
  have h4 := h.oa (nth s.za s.ia) (by rw [drop_nth h2]; simp)
  unfold mtN
  omega
theorem MtOk.step {nb na : Nat} {s : MtS} (h : MtOk nb na s) (h0 : 0 < s.l) : MtOk nb na (mtStep s) := by
  obtain ⟨h1, h2, h3, h4, h5, h6, h7, h8, h9⟩ := h.heads h0
  obtain ⟨b1, b2, b3, b4, b5⟩ := take_ok h1 h.ob ⟨h5, h7⟩
  obtain ⟨a1, a2, a3, a4, a5⟩ := take_ok h2 h.oa ⟨h5, h8⟩
  have hsb := h.sb
  have hsa := h.sa
  have hnb := h.qb
  have hna := h.qa
  have htl := h.tl h0
  exact ⟨by show 0 ≤ s.l - mtN s; omega, by show s.l - mtN s ≤ _; exact b1 ▸ (by omega), by show s.l - mtN s ≤ _; exact a1 ▸ (by omega), b2, a2, by simp only [mtStep, takeZ_len]; exact hnb, by simp only [mtStep, takeZ_len]; exact hna,
    by simp only [mtStep]; omega, by simp only [mtStep]; omega, fun q => by
      simp only [mtStep, List.length_append, List.length_singleton] at q ⊢
      rcases h9 with e | e | e
      · omega
      · have := b5 e; omega
      · have := a5 e; omega⟩
theorem MtOk.init {lb la yb ya : List Bid} (hb : ∀ x ∈ lb ++ la, okBid x = true) (h : (crs lb la).length ≠ 0) (pb : yb.Perm (lb.filter fun x => trd (-1) x (mtBest lb la).p)) (pa : ya.Perm (la.filter fun x => trd 1 x (mtBest lb la).p)) :
    MtOk yb.length ya.length (mtS (mtBest lb la).t yb ya 0) := by
  obtain ⟨t1, t2, t3⟩ := mtBest_t hb h
  have s1 := tonK_sum (-1) (mtBest lb la).p lb (Nat.le_refl _)
  have s2 := tonK_sum 1 (mtBest lb la).p la (Nat.le_refl _)
  rw [List.take_length] at s1 s2
  have p1 := sumN_perm pb
  have p2 := sumN_perm pa
  exact ⟨t3, by show (mtBest lb la).t ≤ sumN yb; omega, by show (mtBest lb la).t ≤ sumN ya; omega, fun x hx => (okBid_ok (hb x (List.mem_append_left _ (List.mem_filter.1 (pb.mem_iff.1 hx)).1))).2.1, fun x hx => (okBid_ok (hb x (List.mem_append_right _ (List.mem_filter.1 (pa.mem_iff.1 hx)).1))).2.1, rfl, rfl, Nat.zero_le _, Nat.zero_le _, fun _ => Nat.le_refl _⟩
def mtErr (lb la : List Bid) : Int := if 30 < lb.length ∨ 30 < la.length then 5 else if ((lb ++ la).any fun x => !okBid x) = true then 2 else if ¬ (lb.map Bid.p).Nodup ∨ ¬ (la.map Bid.p).Nodup then 6 else if (lb ++ la).length = 0 ∨ (mtBest lb la).t = 0 then 7 else 0
/-- What Match returns: a price, the trades, the error. -/
def MtR (lb la : List Bid) (p : Int) (ts : List Trd) (e : Int) : Prop := e = mtErr lb la ∧ ((e ≠ 0 ∧ p = 0 ∧ ts = []) ∨ (e = 0 ∧ p = (mtBest lb la).p ∧ ∃ yb ya, yb.Perm (lb.filter fun x => trd (-1) x p) ∧ Asc (cmpB (-1)) yb ∧ ya.Perm (la.filter fun x => trd 1 x p) ∧ Asc (cmpB 1) ya ∧ ∃ k, (mtS (mtBest lb la).t yb ya k).l = 0 ∧ (∀ j, j < k → 0 < (mtS (mtBest lb la).t yb ya j).l) ∧ ts = (mtS (mtBest lb la).t yb ya k).ts))

end Go.Proofs.YtgoajalaomakpaaGreat
namespace Go.Proofs.YtgoajalaomakpaaGreat
open Go Go.RowKit Go.Proofs.Tryz

theorem Sl.ofBlk {α : Type} [Inhabited α] {enc : α → List Value} {k : Nat} (hk : ∀ x, (enc x).length = k) {w : World} {b : Nat} {t : TypeId} {xs : List α} (h : Blk w b t (xs.flatMap enc)) : Sl enc k w (some ⟨b, 0, none⟩) b 0 xs :=
  ⟨fun _ => rfl, fun _ => h.lt, fun i hi j v hv => by
    have h1 := flatMap_at hk xs i j v hi hv
    rw [Nat.zero_add]
    exact h.get h1⟩
section
variable {P : Program} {ops : Array Oper} {Q : Exit → Act → World → Prop} {N : Nat} {ds : List Deferred} {rest : List Oper} {L : Slots} {w : World} {rd : Option Nat} {d : Nat} {ty : TypeId} {pos : String} {aft : Array Edge} {g : Option (Nat × Bool)}
theorem t_min3 {x y z : Operand} {m n q : Int} {ats : Array TypeId} (hg : grd ops L g = true) (hN : Nat.blt d N = true) (hx : ev L x = some (.int .i64 m)) (hy : ev L y = some (.int .i64 n)) (hz : ev L z = some (.int .i64 q))
    (h : WL rd P ops Q N ds rest ((d, .int .i64 (min (min m n) q)) :: L) w) : WL rd P ops Q N ds (⟨some d, .call ⟨.builtin .min, #[x, y, z], ats⟩, ty, pos, aft, g⟩ :: rest) L w :=
  WL.value hg rfl hN (fun a hk => by
    have e : ∀ m n : Int, (if n < m then n else m) = min m n := fun m n => by split <;> omega
    simp [execOp, resolve, invoke, builtin, Builtin.min_, Builtin.min2, hk.ev hx, hk.ev hy, hk.ev hz, e]) h
end
set_option maxHeartbeats 4000000 in
theorem Match_c (lb : List Bid) (ab : Option Addr) (bb ob cb : Nat) (la : List Bid) (aa : Option Addr) (ba oa ca : Nat) (w0 : World) (hlb : Sl encBid 4 w0 ab bb ob lb) (hllb : lb.length ≤ 1000) (hla : Sl encBid 4 w0 aa ba oa la) (hlla : la.length ≤ 1000) (hpos : 0 < w0.heap.size) :
    CallsV Tryz.prog 13 [.slice ab lb.length cb, .slice aa la.length ca] w0 (fun v w' => (∃ p ts ao g cp e, v = .tuple #[.int .i64 p, .slice ao (List.length ts) cp, .int .i64 e] ∧ Acc encTrd 3 32 w0.heap.size w' ao g cp ts ∧ MtR lb la p ts e) ∧ Ext w0 w') := by
 refine f_n func13 ?_
 refine go ?_
 refine x_n fun bk3 w4 ebk3 sbk3 B5 u6 => ?_
 refine x_n fun bk8 w9 ebk8 sbk8 B10 u11 => ?_
 refine x_s fun w13 sw13 B15 u14 => ?_
 refine x_s fun w17 sw17 B19 u18 => ?_
 refine go ?_
 refine x_l fun bk22 w23 ebk22 sbk22 B24 u25 => ?_
 have E26 := Sc.mk ((((((Upd.refl (fun _ => False) w0).nx u6).nx u11).next u14 (fun i hi h => by omega)).next u18 (fun i hi h => by omega)).nx u25)
 have hLm9 : ∀ h ∈ [(⟨lb, ab, bb, ob, cb⟩ : Hl Bid), ⟨la, aa, ba, oa, ca⟩], Sl encBid 4 w23 h.ao h.g h.o h.xs ∧ h.xs.length ≤ 1000 := by
   intro h hh
   simp only [List.mem_cons, List.not_mem_nil, or_false] at hh
   rcases hh with rfl | rfl
   · exact ⟨(hlb.keep E26.u (fun _ h => h)), hllb⟩
   · exact ⟨(hla.keep E26.u (fun _ h => h)), hlla⟩
 refine x_c func40 rfl rfl (concatB_c [(⟨lb, ab, bb, ob, cb⟩ : Hl Bid), ⟨la, aa, ba, oa, ca⟩] (lb ++ la) (some ⟨bk22, 0, none⟩) bk22 0 2 _ (Sl.ofBlk (enc := encHl) (fun _ => rfl) B24) hLm9 (Nat.le_refl 2) (by simp) (by omega)) ?_
 rintro _ w28 ⟨⟨aC, gC, cC, rfl, hal⟩, u29⟩ zu29
 have hall : (lb ++ la).length = lb.length + la.length := List.length_append
 have lt_gC := hal.lt
 refine go ?_
 refine t_splitp 32 rfl (fun g32 => ?_) (fun g32 => ?_)
 ·
  refine go ?_
  refine f_ret3 (v1 := .int .i64 0) (v2 := .slice none 0 0) (v3 := .int .i64 5) results13 rfl rfl rfl ?_
  exact ⟨⟨0, [], none, 0, 0, 5, rfl, Acc.nil _ _ _ _ _ hpos (by omega), ⟨by unfold mtErr; rw [if_pos (by omega)], .inl ⟨by decide, rfl, rfl⟩⟩⟩, u_d⟩
 refine go ?_
 refine q_p (fun g28 => ?_) fun g28 => ?_
 ·
  refine go ?_
  refine f_ret3 (v1 := .int .i64 0) (v2 := .slice none 0 0) (v3 := .int .i64 5) results13 rfl rfl rfl ?_
  exact ⟨⟨0, [], none, 0, 0, 5, rfl, Acc.nil _ _ _ _ _ hpos (by omega), ⟨by unfold mtErr; rw [if_pos (by omega)], .inl ⟨by decide, rfl, rfl⟩⟩⟩, u_d⟩
 refine go ?_
 refine x_c func41 rfl rfl (containsB_c encBid (fun _ => rfl) (fun x => !okBid x) 42 [] (lb ++ la) aC gC 0 cC _ own42 (fun x _ w _ => badBid_c x w) (hal.sl (fun _ => rfl)) (by rw [List.length_append]; omega)) ?_
 rintro _ w38 ⟨rfl, u39⟩ zu39
 have E41 := Sc.mk ((E26.u.nx u29).nx u39)
 refine go ?_
 refine q_b (fun g37 => ?_) fun g37 => ?_
 ·
  refine go ?_
  refine f_ret3 (v1 := .int .i64 0) (v2 := .slice none 0 0) (v3 := .int .i64 2) results13 rfl rfl rfl ?_
  exact ⟨⟨0, [], none, 0, 0, 2, rfl, Acc.nil _ _ _ _ _ hpos (by omega), ⟨by unfold mtErr; rw [if_neg (by omega), if_pos g37], .inl ⟨by decide, rfl, rfl⟩⟩⟩, u_d⟩
 have hokal : ∀ x ∈ (lb ++ la), okBid x = true := fun x hx => by
   cases h : okBid x
   · exact absurd (show ((lb ++ la).any fun x => !okBid x) = true from List.any_eq_true.2 ⟨x, hx, by simp [h]⟩) (by rw [g37]; exact Bool.false_ne_true)
   · rfl
 refine go ?_
 refine x_c func44 rfl rfl (twice_c (-1) lb ab bb ob cb  _ (hlb.keep E41.u (fun _ h => h)) (Nat.le_trans hllb (by decide))) ?_
 rintro _ w45 ⟨rfl, u46⟩ zu46
 have E48 := Sc.mk (E41.u.nx u46)
 refine go ?_
 refine t_split 43 rfl (fun g43 => ?_) (fun g43 => ?_)
 ·
  refine go ?_
  refine f_ret3 (v1 := .int .i64 0) (v2 := .slice none 0 0) (v3 := .int .i64 6) results13 rfl rfl rfl ?_
  exact ⟨⟨0, [], none, 0, 0, 6, rfl, Acc.nil _ _ _ _ _ hpos (by omega), ⟨by unfold mtErr; rw [if_neg (by omega), if_neg (by rw [g37]; exact Bool.false_ne_true), if_pos (.inl (by simpa using g43))], .inl ⟨by decide, rfl, rfl⟩⟩⟩, u_d⟩
 refine go ?_
 refine x_c func44 rfl rfl (twice_c 1 la aa ba oa ca  _ (hla.keep E48.u (fun _ h => h)) (Nat.le_trans hlla (by decide))) ?_
 rintro _ w51 ⟨rfl, u52⟩ zu52
 refine go ?_
 refine q_b (fun g40 => ?_) fun g40 => ?_
 ·
  refine go ?_
  refine f_ret3 (v1 := .int .i64 0) (v2 := .slice none 0 0) (v3 := .int .i64 6) results13 rfl rfl rfl ?_
  exact ⟨⟨0, [], none, 0, 0, 6, rfl, Acc.nil _ _ _ _ _ hpos (by omega), ⟨by unfold mtErr; rw [if_neg (by omega), if_neg (by rw [g37]; exact Bool.false_ne_true), if_pos (.inr (by simpa using g40))], .inl ⟨by decide, rfl, rfl⟩⟩⟩, u_d⟩
 have hq43 : (lb.map Bid.p).Nodup := by simpa using g43
 have hq40 : (la.map Bid.p).Nodup := by simpa using g40
 have hnd9 : ¬ (¬ (lb.map Bid.p).Nodup ∨ ¬ (la.map Bid.p).Nodup) := fun h => h.elim (fun q => q hq43) (fun q => q hq40)
 refine go ?_
 refine x_l4 (fun i => w51.heap.size ≤ i) [5, 7, 8, 47, 48] (fun (k : Nat) (ao : Option Addr) (gq : Nat) (cg : Nat) => [(10, .slice ao (((crs lb la).take k).length) cg), (49, .int .i64 (k : Int))]) (fun k ao gq cg w => (k ≤ (lb ++ la).length) ∧ (Acc encClr 3 122 w51.heap.size w ao gq cg ((crs lb la).take k))) (fun k ao gq cg => (lb ++ la).length - k) 0 none 0 0 ⟨(Nat.zero_le _), (Acc.nil _ _ _ _ _ (by omega) (by omega))⟩ ?_ (h0 := by exact ⟨(by first | (rw [hst9]; rfl) | rfl), rfl, rfl, rfl, rfl, rfl, rfl, trivial⟩)
 rintro k ao gq cg w60 ⟨hk, hgr⟩ u61 zu61 K59 hK59
 have E62 := Sc.mk ((E48.u.nx u52).next u61 (fun i hi (h : w51.heap.size ≤ i) => show False by first | omega | assumption))
 have lt_gq := hgr.lt
 refine go ?_
 refine q_p (fun g50 => ?_) fun g50 => ?_
 ·
  have hst9 : (crs lb la).take (k + 1) = (crs lb la).take k ++ [clP lb la (nth (lb ++ la) k).r] := by rw [take_nth (by rw [crs_len]; omega), crs_nth (by omega)]
  have hcl9 : ((crs lb la).take k).length = k := by rw [List.length_take, crs_len]; omega
  have hpr9 := (okBid_ok (hokal _ (nth_mem (xs := (lb ++ la)) (i := k) (by omega)))).2.2.1
  refine go ?_
  have D67 := ((((hal.keep u39 (fun _ h => h)).keep u46 (fun _ h => h)).keep u52 (fun _ h => h)).keep u61 (fun hb => show ¬ (w51.heap.size ≤ gC) by first | omega | assumption))
  refine g_i k (D67.sl (fun _ => rfl)) (fun _ => ?_)
  refine go ?_
  refine x_n fun bk69 w70 ebk69 sbk69 B71 u72 => ?_
  refine x_s fun w74 sw74 B76 u75 => ?_
  refine go ?_
  refine c_drawnM follows (fun _ => False) (OTl [0, 2, 4, 8, 10, 12, 7, 15, 16, 18]) (by kernel_rfl) fun w79 u80 => ?_
  have zu80 := u80.size
  have E81 := Sc.mk (((E62.u.nx u72).next u75 (fun i hi h => by omega)).nx u80)
  refine go ?_
  refine x_c func45 rfl rfl (tons_c (-1) lb ab bb ob cb ((nth (lb ++ la) k).r) _ (.inr rfl) (hlb.keep E81.u (fun _ h => h)) (Nat.le_trans hllb (by decide)) (fun x hx => hokal x (List.mem_append_left _ hx)) hpr9) ?_
  rintro _ w83 ⟨rfl, u84⟩ zu84
  refine go ?_
  refine x_c func45 rfl rfl (tons_c 1 la aa ba oa ca ((nth (lb ++ la) k).r) _ (.inl rfl) (hla.keep (E81.u.nx u84) (fun _ h => h)) (Nat.le_trans hlla (by decide)) (fun x hx => hokal x (List.mem_append_right _ hx)) hpr9) ?_
  rintro _ w88 ⟨rfl, u89⟩ zu89
  refine go ?_
  refine t_min rfl rfl rfl rfl ?_
  refine go ?_
  have hdb9 := tonK_bd (sg := -1) (p := (nth (lb ++ la) k).r) (l := lb) (fun x hx => hokal x (List.mem_append_left _ hx)) (Nat.le_refl _)
  have hda9 := tonK_bd (sg := 1) (p := (nth (lb ++ la) k).r) (l := la) (fun x hx => hokal x (List.mem_append_right _ hx)) (Nat.le_refl _)
  refine go ?_
  refine t_max rfl rfl rfl rfl ?_
  refine go ?_
  refine x_l fun bk92 w93 ebk92 sbk92 B94 u95 => ?_
  have D97 := ((((((hgr.keep u72 (fun _ h => h)).keep u75 (fun hb => show ¬ (gq = bk69) by first | omega | assumption)).keep u80 (fun _ h => h)).keep u84 (fun _ h => h)).keep u89 (fun _ h => h)).keep u95 (fun _ h => h))
  refine t_append (z := .agg #[.int .i64 0, .int .i64 0, .int .i64 0]) (bytes := 24) (k := 3) (base := w51.heap.size) (clP lb la (nth (lb ++ la) k).r) underlying119 (by kernel_rfl) rfl (by decide) (fun _ => rfl) (by intro x; simp [encClr, Value.oneCell']) rfl rfl rfl rfl D97 B94 (by omega) (by omega) (by decide) (fun ao98 gb99 cp100 w101 A102 u103 gegb99 lngb99 => ?_)
  have zu103 := u103.size
  have lt_gb99 := A102.lt
  refine go ?_
  exact hK59 (k + 1) ao98 gb99 cp100 ⟨(by omega), (by rw [hst9]; exact A102)⟩ (hs := by exact ⟨(by first | (rw [hst9]; rfl) | rfl), rfl, rfl, rfl, rfl, rfl, rfl, trivial⟩) (hu := (((((((u61.nx u72).next u75 (fun i hi (h : i = bk69) => show w51.heap.size ≤ i by first | omega | assumption)).nx u80).nx u84).nx u89).nx u95).next u103 (fun i hi (h : (i = gq ∧ w51.heap.size ≤ i)) => show w51.heap.size ≤ i by first | omega | assumption)))
 have hke : (crs lb la).take k = (crs lb la) := List.take_of_length_le (by rw [crs_len]; omega)
 rw [hke] at hgr
 have hcrl := crs_len lb la
 refine c_same 10 (v := .slice ao ((crs lb la).length) cg) rfl (by rw [hke]) ?_
 have lt_gq := hgr.lt
 refine go ?_
 refine q_p (fun g80 => ?_) fun g80 => ?_
 ·
  refine go ?_
  refine f_ret3 (v1 := .int .i64 0) (v2 := .slice none 0 0) (v3 := .int .i64 7) results13 rfl rfl rfl ?_
  exact ⟨⟨0, [], none, 0, 0, 7, rfl, Acc.nil _ _ _ _ _ hpos (by omega), ⟨by unfold mtErr; rw [if_neg (by omega), if_neg (by rw [g37]; exact Bool.false_ne_true), if_neg hnd9, if_pos (.inl (by omega))], .inl ⟨by decide, rfl, rfl⟩⟩⟩, u_d⟩
 have hcr0 : (crs lb la).length ≠ 0 := by omega
 have hbp9 := (mtBest_ok hokal hcr0).2
 have hbt9 := mtBest_t hokal hcr0
 refine go ?_
 refine x_c func46 rfl rfl (minFunc_c (crs lb la) ao gq 0 cg _ (hgr.sl (fun _ => rfl)) (by omega) (by omega)) ?_
 rintro _ w110 ⟨rfl, u111⟩ zu111
 refine x_n fun bk114 w115 ebk114 sbk114 B116 u117 => ?_
 refine x_s fun w119 sw119 B121 u120 => ?_
 refine go ?_
 refine q_p (fun g85 => ?_) fun g85 => ?_
 ·
  refine go ?_
  refine f_ret3 (v1 := .int .i64 0) (v2 := .slice none 0 0) (v3 := .int .i64 7) results13 rfl rfl rfl ?_
  exact ⟨⟨0, [], none, 0, 0, 7, rfl, Acc.nil _ _ _ _ _ hpos (by omega), ⟨by unfold mtErr; rw [if_neg (by omega), if_neg (by rw [g37]; exact Bool.false_ne_true), if_neg hnd9, if_pos (.inr g85)], .inl ⟨by decide, rfl, rfl⟩⟩⟩, u_d⟩
 have hM85 : ¬ (mtBest lb la).t = 0 := g85
 refine go ?_
 refine c_drawnM follows (fun _ => False) (OTl [0, 2, 4, 8, 10, 12, 7, 15, 16, 18]) (by kernel_rfl) fun w127 u128 => ?_
 have zu128 := u128.size
 have E129 := Sc.mk ((((E62.u.nx u111).nx u117).next u120 (fun i hi h => by omega)).nx u128)
 refine go ?_
 refine x_c func48 rfl rfl (queue_c (-1) lb ab bb ob cb ((mtBest lb la).p) _ (.inr rfl) (hlb.keep E129.u (fun _ h => h)) (Nat.le_trans hllb (by decide)) (fun x hx => hokal x (List.mem_append_left _ hx)) hbp9 (by omega)) ?_
 rintro _ w131 ⟨⟨yb, ayb, gyb, cyb, rfl, hpb, hsb, hyb⟩, u132⟩ zu132
 have lt_gyb := hyb.lt
 refine go ?_
 refine x_c func48 rfl rfl (queue_c 1 la aa ba oa ca ((mtBest lb la).p) _ (.inl rfl) (hla.keep (E129.u.nx u132) (fun _ h => h)) (Nat.le_trans hlla (by decide)) (fun x hx => hokal x (List.mem_append_right _ hx)) hbp9 (by omega)) ?_
 rintro _ w136 ⟨⟨ya, aya, gya, cya, rfl, hpa, hsa, hya⟩, u137⟩ zu137
 have lt_gya := hya.lt
 refine go ?_
 have D142 := (hyb.keep u137 (fun _ h => h))
 have hmt0 := MtOk.init hokal hcr0 hpb hpa
 have hyb9 := D142
 have hya9 := hya
 have hMp : 0 < (mtBest lb la).t := by omega
 have hyb0 : 0 < yb.length := head_lt hMp hmt0.sb
 have hya0 : 0 < ya.length := head_lt hMp hmt0.sa
 have hMle : (mtBest lb la).t ≤ 1000000000 := by
   have := (tonK_bd (sg := -1) (p := (mtBest lb la).p) (l := lb) (fun x hx => hokal x (List.mem_append_left _ hx)) (Nat.le_refl _)).2; omega
 have hlb9 : yb.length ≤ 30 := by rw [hpb.length_eq]; exact Nat.le_trans (List.length_filter_le _ _) (by omega)
 have hla9 : ya.length ≤ 30 := by rw [hpa.length_eq]; exact Nat.le_trans (List.length_filter_le _ _) (by omega)
 have hgb9 := hyb9.ge hyb0
 have hga9 := hya9.ge hya0
 have hcb9 := hyb9.cap_le
 have hca9 := hya9.cap_le
 have lgb9 := hyb9.lt
 have lga9 := hya9.lt
 refine q_loop (γ := Nat × Option Addr × Option Addr × Option Addr × Nat × Nat) (fun gg => [(5, .slice gg.2.2.2.1 ((mtS (mtBest lb la).t yb ya gg.1).ts.length) gg.2.2.2.2.2), (15, .pointer (some ⟨bk114, 0, none⟩)), (16, .slice gg.2.1 ((List.drop (mtS (mtBest lb la).t yb ya gg.1).ib (mtS (mtBest lb la).t yb ya gg.1).zb).length) (cyb - (mtS (mtBest lb la).t yb ya gg.1).ib)), (17, .slice gg.2.2.1 ((List.drop (mtS (mtBest lb la).t yb ya gg.1).ia (mtS (mtBest lb la).t yb ya gg.1).za).length) (cya - (mtS (mtBest lb la).t yb ya gg.1).ia)), (18, .int .i64 ((mtS (mtBest lb la).t yb ya gg.1).l))]) (fun gg w => Upd (fun i => i = gyb ∨ i = gya ∨ w136.heap.size ≤ i) w136 w ∧ (MtOk yb.length ya.length (mtS (mtBest lb la).t yb ya gg.1)) ∧ (Wr encBid 4 30 w gyb (mtS (mtBest lb la).t yb ya gg.1).zb) ∧ (Wr encBid 4 30 w gya (mtS (mtBest lb la).t yb ya gg.1).za) ∧ ((mtS (mtBest lb la).t yb ya gg.1).ib < List.length (mtS (mtBest lb la).t yb ya gg.1).zb → gg.2.1 = some ⟨gyb, (mtS (mtBest lb la).t yb ya gg.1).ib * 4, none⟩) ∧ ((mtS (mtBest lb la).t yb ya gg.1).ia < List.length (mtS (mtBest lb la).t yb ya gg.1).za → gg.2.2.1 = some ⟨gya, (mtS (mtBest lb la).t yb ya gg.1).ia * 4, none⟩) ∧ (Acc encTrd 3 32 w136.heap.size w gg.2.2.2.1 gg.2.2.2.2.1 gg.2.2.2.2.2 (mtS (mtBest lb la).t yb ya gg.1).ts) ∧ (∀ j, j < gg.1 → 0 < (mtS (mtBest lb la).t yb ya j).l) ∧ ((mtS (mtBest lb la).t yb ya gg.1).l ≤ 1000000000)) (fun gg => (mtS (mtBest lb la).t yb ya gg.1).l.toNat) (0, ayb, aya, none, 0, 0) ⟨rfl, rfl, rfl, rfl, rfl, trivial⟩ ⟨Upd.refl _ _, hmt0, (hyb9.wr (fun _ => rfl)), (hya9.wr (fun _ => rfl)), (fun h => by rw [show (mtS (mtBest lb la).t yb ya 0).ib * 4 = 0 from rfl]; exact (hyb9.sl (fun _ => rfl)).addr h), (fun h => by rw [show (mtS (mtBest lb la).t yb ya 0).ia * 4 = 0 from rfl]; exact (hya9.sl (fun _ => rfl)).addr h), (Acc.nil _ _ _ _ _ (by omega) (by omega)), (fun j h => absurd h (Nat.not_lt_zero j)), hMle⟩ ?_
 intro gg w144 hW K143 hK143
 obtain ⟨k, a1, a2, ao, gt, ct⟩ := gg
 change WC _ _ _ _ _ _ [(5, .slice ao ((mtS (mtBest lb la).t yb ya k).ts.length) ct), (15, .pointer (some ⟨bk114, 0, none⟩)), (16, .slice a1 ((List.drop (mtS (mtBest lb la).t yb ya k).ib (mtS (mtBest lb la).t yb ya k).zb).length) (cyb - (mtS (mtBest lb la).t yb ya k).ib)), (17, .slice a2 ((List.drop (mtS (mtBest lb la).t yb ya k).ia (mtS (mtBest lb la).t yb ya k).za).length) (cya - (mtS (mtBest lb la).t yb ya k).ia)), (18, .int .i64 ((mtS (mtBest lb la).t yb ya k).l))] _
 change Upd (fun i => i = gyb ∨ i = gya ∨ w136.heap.size ≤ i) w136 w144 ∧ (MtOk yb.length ya.length (mtS (mtBest lb la).t yb ya k)) ∧ (Wr encBid 4 30 w144 gyb (mtS (mtBest lb la).t yb ya k).zb) ∧ (Wr encBid 4 30 w144 gya (mtS (mtBest lb la).t yb ya k).za) ∧ ((mtS (mtBest lb la).t yb ya k).ib < List.length (mtS (mtBest lb la).t yb ya k).zb → a1 = some ⟨gyb, (mtS (mtBest lb la).t yb ya k).ib * 4, none⟩) ∧ ((mtS (mtBest lb la).t yb ya k).ia < List.length (mtS (mtBest lb la).t yb ya k).za → a2 = some ⟨gya, (mtS (mtBest lb la).t yb ya k).ia * 4, none⟩) ∧ (Acc encTrd 3 32 w136.heap.size w144 ao gt ct (mtS (mtBest lb la).t yb ya k).ts) ∧ (∀ j, j < k → 0 < (mtS (mtBest lb la).t yb ya j).l) ∧ ((mtS (mtBest lb la).t yb ya k).l ≤ 1000000000) at hW
 obtain ⟨u145, I146, I147, I148, I149, I150, I151, I152, I153⟩ := hW
 have zu145 := u145.size
 have hmt := I146; clear I146
 have hzb := I147; clear I147
 have hza := I148; clear I148
 have hadrb := I149; clear I149
 have hadra := I150; clear I150
 have htr := I151; clear I151
 have hall9 := I152; clear I152
 have hlle := I153; clear I153
 have lt_gt := htr.lt
 refine go ?_
 refine q_p (fun g97 => ?_) fun g97 => ?_
 ·
  obtain ⟨hib, hia, hnb, hna, hn1, hn2, hn3, hn4, _⟩ := hmt.heads g97
  have hdb : (List.drop (mtS (mtBest lb la).t yb ya k).ib (mtS (mtBest lb la).t yb ya k).zb).length = (mtS (mtBest lb la).t yb ya k).zb.length - (mtS (mtBest lb la).t yb ya k).ib := List.length_drop
  have hda : (List.drop (mtS (mtBest lb la).t yb ya k).ia (mtS (mtBest lb la).t yb ya k).za).length = (mtS (mtBest lb la).t yb ya k).za.length - (mtS (mtBest lb la).t yb ya k).ia := List.length_drop
  have eb0 : nth (List.drop (mtS (mtBest lb la).t yb ya k).ib (mtS (mtBest lb la).t yb ya k).zb) 0 = nth (mtS (mtBest lb la).t yb ya k).zb (mtS (mtBest lb la).t yb ya k).ib := by rw [nth_drop, Nat.add_zero]
  have ea0 : nth (List.drop (mtS (mtBest lb la).t yb ya k).ia (mtS (mtBest lb la).t yb ya k).za) 0 = nth (mtS (mtBest lb la).t yb ya k).za (mtS (mtBest lb la).t yb ya k).ia := by rw [nth_drop, Nat.add_zero]
  have htl9 := hmt.tl g97
  have hnx9 : (mtS (mtBest lb la).t yb ya (k + 1)).l = (mtS (mtBest lb la).t yb ya k).l - mtN (mtS (mtBest lb la).t yb ya k) := rfl
  have hib9 := hmt.ib
  have hia9 := hmt.ia
  refine go ?_
  refine c_drawnM follows (fun _ => False) (OTl [0, 2, 4, 6, 8, 10, 12, 14, 16, 19, 20]) (by kernel_rfl) fun w158 u159 => ?_
  have zu159 := u159.size
  refine go ?_
  have D161 := (hzb.keep u159 (fun _ h => h))
  refine y_i 0 (Wr.slD D161 hadrb) (fun _ => ?_)
  iterate 2 refine st1 ?_
  refine y_same 102 (v := .int .i64 ((nth (mtS (mtBest lb la).t yb ya k).zb (mtS (mtBest lb la).t yb ya k).ib).n)) rfl (by rw [eb0]) ?_
  refine go ?_
  have D163 := (hza.keep u159 (fun _ h => h))
  refine y_i 0 (Wr.slD D163 hadra) (fun _ => ?_)
  iterate 2 refine st1 ?_
  refine y_same 106 (v := .int .i64 ((nth (mtS (mtBest lb la).t yb ya k).za (mtS (mtBest lb la).t yb ya k).ia).n)) rfl (by rw [ea0]) ?_
  refine go ?_
  refine t_min3 rfl rfl rfl rfl rfl (t_same 107 (v := .int .i64 (mtN (mtS (mtBest lb la).t yb ya k))) rfl (by unfold mtN; rfl) ?_)
  refine go ?_
  refine c_drawnM follows (fun i => (i = gt ∧ w136.heap.size ≤ i)) (OTl [0, 2, 4, 6, 8, 10, 12, 14, 16, 18, 20, 23, 25, 26]) (by kernel_rfl) fun w166 u167 => ?_
  have zu167 := u167.size
  refine go ?_
  have D169 := (D161.keep u167 (fun _ h => h))
  refine y_i 0 (Wr.slD D169 hadrb) (fun _ => ?_)
  iterate 2 refine st1 ?_
  refine y_same 112 (v := .int .i64 ((nth (mtS (mtBest lb la).t yb ya k).zb (mtS (mtBest lb la).t yb ya k).ib).p)) rfl (by rw [eb0]) ?_
  refine go ?_
  have D171 := (D163.keep u167 (fun _ h => h))
  refine y_i 0 (Wr.slD D171 hadra) (fun _ => ?_)
  iterate 2 refine st1 ?_
  refine y_same 116 (v := .int .i64 ((nth (mtS (mtBest lb la).t yb ya k).za (mtS (mtBest lb la).t yb ya k).ia).p)) rfl (by rw [ea0]) ?_
  refine go ?_
  refine x_l fun bk173 w174 ebk173 sbk173 B175 u176 => ?_
  refine go ?_
  have D178 := (((htr.keep u159 (fun _ h => h)).keep u167 (fun _ h => h)).keep u176 (fun _ h => h))
  refine t_append (z := .agg #[.int .i64 0, .int .i64 0, .int .i64 0]) (bytes := 24) (k := 3) (base := w136.heap.size) (⟨(nth (mtS (mtBest lb la).t yb ya k).zb (mtS (mtBest lb la).t yb ya k).ib).p, (nth (mtS (mtBest lb la).t yb ya k).za (mtS (mtBest lb la).t yb ya k).ia).p, mtN (mtS (mtBest lb la).t yb ya k)⟩ : Trd) underlying25 (by kernel_rfl) rfl (by decide) (fun _ => rfl) (by intro x; simp [encTrd, Value.oneCell']) rfl rfl rfl rfl D178 B175 (by omega) (by omega) (by decide) (fun ao179 gb180 cp181 w182 A183 u184 gegb180 lngb180 => ?_)
  have zu184 := u184.size
  have lt_gb180 := A183.lt
  refine go ?_
  have D186 := ((D169.keep u176 (fun _ h => h)).keep u184 (fun _ => show ¬ ((gyb = gt ∧ w136.heap.size ≤ gyb)) by omega))
  refine x_c func49 rfl rfl (take_c (mtS (mtBest lb la).t yb ya k).zb (mtS (mtBest lb la).t yb ya k).ib a1 gyb cyb (mtN (mtS (mtBest lb la).t yb ya k)) _ D186 hadrb hib (by rw [hmt.qb]; omega) (by omega) (by omega)) ?_
  rintro _ w188 ⟨⟨adbn, rfl, habn, hzbn⟩, u189⟩ zu189
  refine go ?_
  have D192 := (((D171.keep u176 (fun _ h => h)).keep u184 (fun _ => show ¬ ((gya = gt ∧ w136.heap.size ≤ gya)) by omega)).keep u189 (fun _ => show ¬ (gya = gyb) by omega))
  refine x_c func49 rfl rfl (take_c (mtS (mtBest lb la).t yb ya k).za (mtS (mtBest lb la).t yb ya k).ia a2 gya cya (mtN (mtS (mtBest lb la).t yb ya k)) _ D192 hadra hia (by rw [hmt.qa]; omega) (by omega) (by omega)) ?_
  rintro _ w194 ⟨⟨adan, rfl, haan, hzan⟩, u195⟩ zu195
  refine go ?_
  have D198 := (hzbn.keep u195 (fun _ => show ¬ (gyb = gya) by omega))
  have D199 := ((A183.keep u189 (fun hb => show ¬ (gb180 = gyb) by first | omega | assumption)).keep u195 (fun hb => show ¬ (gb180 = gya) by first | omega | assumption))
  exact hK143 (k + 1, adbn, adan, ao179, gb180, cp181) _ _ (by show (mtS (mtBest lb la).t yb ya (k + 1)).l.toNat < (mtS (mtBest lb la).t yb ya k).l.toNat; omega) ⟨rfl, rfl, rfl, rfl, rfl, trivial⟩ ⟨((((((u145.nx u159).nx u167).nx u176).next u184 (fun i hi (h : (i = gt ∧ w136.heap.size ≤ i)) => show i = gyb ∨ i = gya ∨ w136.heap.size ≤ i by first | omega | assumption)).next u189 (fun i hi (h : i = gyb) => show i = gyb ∨ i = gya ∨ w136.heap.size ≤ i by first | omega | assumption)).next u195 (fun i hi (h : i = gya) => show i = gyb ∨ i = gya ∨ w136.heap.size ≤ i by first | omega | assumption)), (hmt.step g97), D198, hzan, habn, haan, D199, (fun j h => (Nat.lt_succ_iff_lt_or_eq.1 h).elim (hall9 j) (fun e => e ▸ g97)), (hnx9 ▸ (by omega))⟩
 refine go ?_
 refine f_ret3 (v1 := .int .i64 ((mtBest lb la).p)) (v2 := .slice ao ((mtS (mtBest lb la).t yb ya k).ts.length) ct) (v3 := .int .i64 0) results13 rfl rfl rfl ?_
 have hl0 := hmt.l0
 obtain ⟨gz, hz⟩ := Acc.lower (base' := w0.heap.size) htr (by omega) hpos
 exact ⟨⟨_, _, _, gz, _, 0, rfl, hz, ⟨by unfold mtErr; rw [if_neg (by omega), if_neg (by rw [g37]; exact Bool.false_ne_true), if_neg hnd9, if_neg (by omega)], .inr ⟨rfl, rfl, yb, ya, hpb, hsb, hpa, hsa, k, by omega, hall9, rfl⟩⟩⟩, u_d⟩

end Go.Proofs.YtgoajalaomakpaaGreat
