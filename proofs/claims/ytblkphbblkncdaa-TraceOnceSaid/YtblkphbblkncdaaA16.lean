/-
  The contract of Control. Conditions: none.
-/
import Derived.Test.YtblkphbblkncdaaA15
namespace Go.Proofs.Ytblkphbblkncdaa
open Go Go.RowKit

def layH (h : HG) : List Lay := h.xs.map HLay.v
theorem sumH_take2 {hl : List HG} {k : Nat} {b : Int} (h : k < hl.length) : sumH b ((hl.take (k + 1)).map layH) = sumH b ((hl.take k).map layH) + ofT ((nth hl k).xs.map HLay.v) b := sumH_take h
theorem co_snoc {bs : List Bil} {S : Stt} {k : Nat} {rs : List Cnt} (h : rs = (List.range k).map (coP bs S)) {c : Cnt} (hc : c = coP bs S k) : rs ++ [c] = (List.range (k + 1)).map (coP bs S) := by
  rw [List.range_succ, List.map_append, h, hc]; rfl

set_option maxHeartbeats 1000000 in
theorem Control_c (bs : List Bil) (ab : Option Addr) (bb ob cb : Nat) (hs : List Hld) (ah : Option Addr) (bh oh ch : Nat) (us : List Ev) (ae : Option Addr) (be oe ce : Nat) (w0 : World) (hbs : Sl encBil 3 w0 ab bb ob bs) (hhs : Sl encHld 2 w0 ah bh oh hs) (hbl : bs.length ≤ 1000000) (hhl : hs.length ≤ 1000000) (hu : Sl encEv 8 w0 ae be oe us) (hul : us.length ≤ 1000000) (hpos : 0 < w0.heap.size) :
    CallsV Try.prog 22 [.agg #[.slice ab bs.length cb, .slice ah hs.length ch], .slice ae us.length ce] w0 (fun v w' => ControlPost bs hs us v w' ∧ Ext w0 w') := by
 refine f_enter (N := 91) Try.func22 rfl rfl rfl (c_seq fun K1 hK1 => (c_region (t_box (cs := [.slice ab bs.length cb, .slice ah hs.length ch]) rfl rfl rfl rfl (fun bk2 w3 ebk2 sbk2 B4 u5 => ?_))))
 have zu5 := u5.size
 have E6 := (Upd.refl (fun _ => False) w0).nx u5
 refine t_assign rfl rfl rfl (t_assign rfl rfl rfl (t_assign rfl rfl rfl (t_nil' (hK1 _ _ (c_seq fun K7 hK7 => (c_region (t_loadN (vs := [.slice ab bs.length cb, .slice ah hs.length ch]) Try.isAgg25 Try.sizeOf25 rfl rfl rfl (B4.at.sub 0 2) rfl (t_move rfl rfl rfl (t_call own43 rfl rfl rfl rfl (sail_c bs ab bb ob cb hs ah bh oh ch us ae be oe ce _ (hbs.keep E6 (fun _ h => h)) (hhs.keep E6 (fun _ h => h)) hbl hhl (hu.keep E6 (fun _ h => h)) hul (by omega)) (fun v8 w9 r11 => ?_))))))))))
 rcases r11 with ⟨⟨at1, e1, rfl, he1, hsl⟩ | ⟨pv, V, rfl, hsl, hv, hvo, hVb, hVc, h100, hVB⟩, u10⟩
 ·
  have zu10 := u10.size
  refine t_move rfl rfl rfl (t_extract rfl rfl rfl rfl (t_extract rfl rfl rfl rfl (t_extract rfl rfl rfl rfl (t_assign rfl rfl rfl (t_assign rfl rfl rfl (t_assign rfl rfl rfl (t_nil' (hK7 _ _ (c_seq fun K13 hK13 => (c_seq fun K14 hK14 => (c_region (t_move rfl rfl rfl (t_cmp rfl rfl rfl rfl rfl (t_nil' (hK14 _ _ (c_condp rfl (fun g23 => ?_) (fun g23 => ?_)))))))))))))))))
  ·
   refine c_seq fun K15 hK15 => (c_region (t_move rfl rfl rfl (t_move rfl rfl rfl (t_assign rfl rfl rfl (t_assign rfl rfl rfl (t_assign rfl rfl rfl (t_nil' (hK15 _ _ (c_ret (f_ret3 (v1 := .slice none 0 0) (v2 := .int .i64 at1) (v3 := .int .i64 e1) Try.results22 rfl rfl rfl ?_))))))))))
   exact ⟨.inl ⟨at1, e1, rfl, he1, hsl⟩, (E6.nx u10)⟩
  exact absurd he1 g23
 have zu10 := u10.size
 have hsp := Prod.ext_iff.1 hsl
 have hpb := hv.blk
 have hn20 := hvo.hn
 have hldn := hvo.ok.ldn
 have hldl : V.ld.length ≤ us.length := by have h := hldn; simp only [VG.st, List.length_map] at h; exact h
 have hlsn := hvo.lsn
 have hbnn := hvo.ok.bn
 rw [hVb] at hlsn hbnn
 have hpvl := hv.blk.lt
 refine t_move rfl rfl rfl (t_extract rfl rfl rfl rfl (t_extract rfl rfl rfl rfl (t_extract rfl rfl rfl rfl (t_assign rfl rfl rfl (t_assign rfl rfl rfl (t_assign rfl rfl rfl (t_nil' (hK7 _ _ (c_seq fun K17 hK17 => (c_seq fun K18 hK18 => (c_region (t_move rfl rfl rfl (t_cmp rfl rfl rfl rfl rfl (t_samehd (v := .bool false) rfl (t_nil' (hK18 _ _ (c_cond_f rfl (c_skip (hK17 _ _ (c_seq fun K19 hK19 => (c_seq fun K20 hK20 => (c_region (t_field Try.underlying25 rfl Try.sizeOf22 (0) rfl rfl rfl rfl ?_)))))))))))))))))))))))
 have B21 := (B4.kx u10)
 refine t_load Try.isAgg22 rfl rfl rfl (B21.get rfl) (t_len Try.underlying22 rfl rfl rfl rfl (t_move rfl rfl rfl (t_nil' (hK20 _ _ (c_block (c_loop (γ := Nat × Option Addr × Nat × Nat × List Cnt) (fun gg => [(4, .slice gg.2.1 gg.2.2.2.2.length gg.2.2.2.1), (7, .pointer (some ⟨pv, 0, none⟩)), (27, .slice ab bs.length cb), (28, .int .i64 (bs.length : Int)), (29, .int .i64 (gg.1 : Int))]) (fun gg w => Upd (fun _ => False) w9 w ∧ (gg.1 ≤ bs.length) ∧ (gg.2.2.2.2 = (List.range gg.1).map (coP bs V.st)) ∧ (Acc encCnt 4 65 w9.heap.size w gg.2.1 gg.2.2.1 gg.2.2.2.1 gg.2.2.2.2)) (fun gg => bs.length - gg.1) (0, none, 0, 0, []) ⟨rfl, rfl, rfl, rfl, rfl, trivial⟩ ⟨Upd.refl _ _, (Nat.zero_le _), rfl, (Acc.nil _ _ _ _ _ (by omega) (Nat.le_refl _))⟩ ?_))))))
 intro gg w23 hW K22 hK22
 obtain ⟨k, ao2, g2, c2, rs⟩ := gg
 change WC _ _ _ _ _ _ [(4, .slice ao2 rs.length c2), (7, .pointer (some ⟨pv, 0, none⟩)), (27, .slice ab bs.length cb), (28, .int .i64 (bs.length : Int)), (29, .int .i64 (k : Int))] _
 change Upd (fun _ => False) w9 w23 ∧ (k ≤ bs.length) ∧ (rs = (List.range k).map (coP bs V.st)) ∧ (Acc encCnt 4 65 w9.heap.size w23 ao2 g2 c2 rs) at hW
 obtain ⟨u24, I25, I26, I27⟩ := hW
 have zu24 := u24.size
 have E28 := (E6.nx u10).nx u24
 have hk := I25; clear I25
 have hrs := I26; clear I26
 have hacc := I27; clear I27
 have lt_g2 := hacc.lt
 have hrl : rs.length = k := by rw [hrs]; simp
 refine c_seq fun K29 hK29 => (c_region (t_cmp rfl rfl rfl rfl rfl (t_nil' (hK29 _ _ (c_seq fun K30 hK30 => (c_condp rfl (fun g30 => ?_) (fun g30 => ?_)))))))
 ·
  have hlr := hvo.lsr k (by omega)
  have hbk := hvo.bil (nth V.bs k) (nth_mem (by rw [hVb]; omega))
  rw [hVb] at hbk hlr
  simp only [okBil, decide_eq_true_eq] at hbk
  refine c_skip (hK30 _ _ (c_seq fun K31 hK31 => (c_block (c_seq fun K32 hK32 => (c_region (t_move rfl rfl rfl ?_))))))
  have i33 : k < bs.length := (by omega)
  refine t_index (j := k) Try.underlying22 Try.sizeOf93 rfl rfl rfl rfl ((hbs.keep E28 (fun _ h => h)).addr (by omega)) rfl i33 (t_loadN (vs := [.int .i64 ((nth bs k).tons), .int .i64 ((nth bs k).frm), .int .i64 ((nth bs k).to)]) Try.isAgg93 Try.sizeOf93 rfl rfl rfl (((hbs.keep E28 (fun _ h => h)).at_ k (by omega)).sub 0 3) rfl (t_alloc (cs := [.int .i64 0, .int .i64 0, .int .i64 0]) Try.zeroValue93 rfl rfl rfl (fun bk34 w35 ebk34 sbk34 B36 u37 => ?_)))
  have zu37 := u37.size
  refine t_assign rfl rfl rfl (t_st (vs := [.int .i64 ((nth bs k).tons), .int .i64 ((nth bs k).frm), .int .i64 ((nth bs k).to)]) Try.sizeOf93 rfl rfl rfl B36 rfl rfl rfl rfl (fun w39 sw39 B41 u40 => ?_))
  have zu40 := u40.size
  have B41 : Blk w39 bk34 93 [.int .i64 ((nth bs k).tons), .int .i64 ((nth bs k).frm), .int .i64 ((nth bs k).to)] := B41
  refine t_nil' (hK32 _ _ (c_seq fun K43 hK43 => (c_region (t_move rfl rfl rfl (t_nilchk rfl rfl rfl (t_field Try.underlying118 rfl Try.sizeOf45 (3) rfl rfl rfl rfl ?_))))))
  have B44 := (((hpb.kx u24).kx u37).keep u40 (by omega))
  refine t_load Try.isAgg45 rfl rfl rfl (B44.get rfl) (t_move rfl rfl rfl ?_)
  have i45 : k < V.ls.length := (by omega)
  refine t_index (j := k) Try.underlying45 Try.sizeOf3 rfl rfl rfl rfl ((SlI.own ((hv.keepS ((((Upd.refl (fun i => i = bk34) w9).next u24 (fun _ _ h => h.elim)).next u37 (fun _ _ h => h.elim)).next u40 (fun i hi h => by omega)) (hv.off.mono (fun i (h : i = bk34) => by show w9.heap.size ≤ i; omega)))).lblk).addr (by omega)) (by omega) i45 (t_load Try.isAgg3 rfl rfl rfl (((SlI.own ((hv.keepS ((((Upd.refl (fun i => i = bk34) w9).next u24 (fun _ _ h => h.elim)).next u37 (fun _ _ h => h.elim)).next u40 (fun i hi h => by omega)) (hv.off.mono (fun i (h : i = bk34) => by show w9.heap.size ≤ i; omega)))).lblk).at_ k (by omega)) 0 _ rfl) (t_build (ps := [(0, .int .i64 (nth V.ls k))]) (v := .agg #[.int .i64 (nth V.ls k), .int .i64 0, .int .i64 0, .int .i64 0]) rfl rfl ⟨rfl, rfl⟩ (fun w => by kernel_rfl) (t_alloc (cs := [.int .i64 0, .int .i64 0, .int .i64 0, .int .i64 0]) Try.zeroValue65 rfl rfl rfl (fun bk46 w47 ebk46 sbk46 B48 u49 => ?_))))
  have zu49 := u49.size
  refine t_st (vs := [.int .i64 (nth V.ls k), .int .i64 0, .int .i64 0, .int .i64 0]) Try.sizeOf65 rfl rfl rfl B48 rfl rfl rfl rfl (fun w51 sw51 B53 u52 => ?_)
  have zu52 := u52.size
  have B53 : Blk w51 bk46 65 [.int .i64 (nth V.ls k), .int .i64 0, .int .i64 0, .int .i64 0] := B53
  refine t_nil' (hK43 _ _ (c_seq fun K55 hK55 => (c_seq fun K56 hK56 => (c_region (t_move rfl rfl rfl (t_nilchk rfl rfl rfl (t_field Try.underlying118 rfl Try.sizeOf114 (2) rfl rfl rfl rfl ?_)))))))
  have B57 := ((B44.kx u49).keep u52 (by omega))
  refine t_load Try.isAgg114 rfl rfl rfl (B57.get rfl) (t_len Try.underlying114 rfl rfl rfl rfl (t_move rfl rfl rfl (t_nil' (hK56 _ _ (c_block (c_loop (γ := Nat) (fun j => [(4, .slice ao2 rs.length c2), (7, .pointer (some ⟨pv, 0, none⟩)), (8, .int .i64 (k : Int)), (9, .pointer (some ⟨bk34, 0, none⟩)), (10, .pointer (some ⟨bk46, 0, none⟩)), (27, .slice ab bs.length cb), (28, .int .i64 (bs.length : Int)), (29, .int .i64 (k : Int)), (45, .slice V.pa V.hl.length V.pc), (46, .int .i64 (V.hl.length : Int)), (47, .int .i64 (j : Int))]) (fun j w => Upd (fun i => i = bk46) w51 w ∧ Blk w bk46 65 [.int .i64 (nth V.ls k), .int .i64 (sumH (k : Int) ((V.hl.take j).map layH)), .int .i64 0, .int .i64 0] ∧ (j ≤ V.hl.length) ∧ (0 ≤ sumH (k : Int) ((V.hl.take j).map layH) ∧ sumH (k : Int) ((V.hl.take j).map layH) ≤ 1000000 * j)) (fun j => V.hl.length - j) 0 ⟨rfl, rfl, rfl, rfl, rfl, rfl, rfl, rfl, rfl, rfl, rfl, trivial⟩ ⟨Upd.refl _ _, B53, (Nat.zero_le _), (by simp [sumH])⟩ ?_))))))
  intro j w59 hW K58 hK58
  obtain ⟨u60, I61, I62, I63⟩ := hW
  have zu60 := u60.size
  have hj := I62; clear I62
  have hsh := I63; clear I63
  refine c_seq fun K65 hK65 => (c_region (t_cmp rfl rfl rfl rfl rfl (t_nil' (hK65 _ _ (c_seq fun K66 hK66 => (c_condp rfl (fun g48 => ?_) (fun g48 => ?_)))))))
  ·
   refine c_skip (hK66 _ _ (c_seq fun K67 hK67 => (c_block (c_seq fun K68 hK68 => (c_region ?_)))))
   have i69 : j < V.hl.length := (by omega)
   refine t_index (j := j) Try.underlying114 Try.sizeOf119 rfl rfl rfl rfl ((((hv.keepS (((((((Upd.refl (fun i => i = bk34 ∨ i = bk46) w9).next u24 (fun _ _ h => h.elim)).next u37 (fun _ _ h => h.elim)).next u40 (fun i hi h => by omega)).next u49 (fun _ _ h => h.elim)).next u52 (fun i hi h => by omega)).next u60 (fun i hi h => by omega)) (hv.off.mono (fun i (h : i = bk34 ∨ i = bk46) => by show w9.heap.size ≤ i; omega)))).pacc.sl (fun _ => rfl)).addr (by omega)) rfl i69 (t_load Try.isAgg119 rfl rfl rfl (((((hv.keepS (((((((Upd.refl (fun i => i = bk34 ∨ i = bk46) w9).next u24 (fun _ _ h => h.elim)).next u37 (fun _ _ h => h.elim)).next u40 (fun i hi h => by omega)).next u49 (fun _ _ h => h.elim)).next u52 (fun i hi h => by omega)).next u60 (fun i hi h => by omega)) (hv.off.mono (fun i (h : i = bk34 ∨ i = bk46) => by show w9.heap.size ≤ i; omega)))).pacc.sl (fun _ => rfl)).at_ j (by omega)) 0 _ rfl) ?_)
   have hjj : j < V.hl.length := by omega
   have hB9 := ((hv.keepS (((((((Upd.refl (fun i => i = bk34 ∨ i = bk46) w9).next u24 (fun _ _ h => h.elim)).next u37 (fun _ _ h => h.elim)).next u40 (fun i hi h => by omega)).next u49 (fun _ _ h => h.elim)).next u52 (fun i hi h => by omega)).next u60 (fun i hi h => by omega)) (hv.off.mono (fun i (h : i = bk34 ∨ i = bk46) => by show w9.heap.size ≤ i; omega))).hold _ (nth_mem hjj)).blk
   have hfw := hvo.few (nth_mem hjj)
   have hof := ofT_le (b := (k : Int)) (l := (nth V.hl j).xs.map HLay.v) (fun y hy => by obtain ⟨z, hz, rfl⟩ := List.mem_map.1 hy; exact (hfw.2.1 z hz).1)
   have hb9p := (hv.hold _ (nth_mem hjj)).blk.lt
   refine t_assign rfl rfl rfl (t_nil' (hK68 _ _ (c_drawnR follows 10 (by kernel_rfl) (p_field Try.underlying65 rfl Try.sizeOf3 (1) rfl rfl rfl rfl (p_load Try.isAgg3 rfl rfl rfl (I61.get rfl) (p_move rfl rfl rfl (p_nilchk rfl rfl rfl (p_field Try.underlying122 rfl Try.sizeOf120 (2) rfl rfl rfl rfl (p_load Try.isAgg120 rfl rfl rfl (hB9.get rfl) (p_move rfl rfl rfl (p_call (v := .int .i64 (ofT (((nth V.hl j).xs).map HLay.v) (k : Int))) own53 rfl rfl rfl rfl (fun _ u72 => (of_c ((nth V.hl j).xs) ((nth V.hl j).ao) (nth V.hl j).g 0 ((nth V.hl j).cp) (k : Int) _ ((((hv.keepS ((((((((Upd.refl (fun i => i = bk34 ∨ i = bk46) w9).next u24 (fun _ _ h => h.elim)).next u37 (fun _ _ h => h.elim)).next u40 (fun i hi h => by omega)).next u49 (fun _ _ h => h.elim)).next u52 (fun i hi h => by omega)).next u60 (fun i hi h => by omega)).next u72 (fun _ _ h => h.elim)) (hv.off.mono (fun i (h : i = bk34 ∨ i = bk46) => by show w9.heap.size ≤ i; omega)))).hold (nth V.hl j) (nth_mem (by omega))).lays.acc.sl (fun _ => rfl)) (hvo.few (nth_mem (by omega))).1 (hvo.few (nth_mem (by omega))).2.1)) (p_ari rfl rfl rfl rfl rfl (by omega) (p_field Try.underlying65 rfl Try.sizeOf3 (1) rfl rfl rfl rfl (p_nil fun w74 u75 => ?_))))))))))))))
   have zu75 := u75.size
   have B77 := (I61.kx u75)
   refine t_st (vs := [.int .i64 ((sumH (k : Int) ((V.hl.take j).map layH)) + (ofT (((nth V.hl j).xs).map HLay.v) (k : Int)))]) Try.sizeOf3 rfl rfl rfl B77 rfl rfl rfl rfl (fun w78 sw78 B80 u79 => ?_)
   have zu79 := u79.size
   have B80 : Blk w78 bk46 65 [.int .i64 (nth V.ls k), .int .i64 ((sumH (k : Int) ((V.hl.take j).map layH)) + (ofT (((nth V.hl j).xs).map HLay.v) (k : Int))), .int .i64 0, .int .i64 0] := B80
   refine t_nil' (hK67 _ _ (c_region (t_ari rfl rfl rfl rfl rfl (by omega) (t_move rfl rfl rfl (t_nil' ?_)))))
   exact hK58 (j + 1) _ _ (by omega) ⟨rfl, rfl, rfl, rfl, rfl, rfl, rfl, rfl, rfl, rfl, rfl, trivial⟩ ⟨((u60.next u75 (fun _ _ h => h.elim)).next u79 (fun i hi h => by omega)), (by show Blk _ _ _ [_, .int .i64 (sumH (k : Int) ((V.hl.take (j + 1)).map layH)), _, _]; rw [sumH_take2 (by omega)]; exact B80), (by omega), (by rw [sumH_take2 (by omega)]; omega)⟩
  refine c_exit (hK55 _ _ (c_seq fun K82 hK82 => (c_seq fun K83 hK83 => (c_region (t_move rfl rfl rfl (t_move rfl rfl rfl (t_call own54 rfl rfl rfl rfl (ports_c _ pv us.length V (k : Int) _ (hv.keepS (((((((Upd.refl (fun i => i = bk34 ∨ i = bk46) w9).next u24 (fun _ _ h => h.elim)).next u37 (fun _ _ h => h.elim)).next u40 (fun i hi h => by omega)).next u49 (fun _ _ h => h.elim)).next u52 (fun i hi h => by omega)).next u60 (fun i hi h => by omega)) (hv.off.mono (fun i (h : i = bk34 ∨ i = bk46) => by show w9.heap.size ≤ i; omega))) hvo h100) (fun v84 w85 r87 => ?_))))))))
  obtain ⟨⟨rP, rfl, hgP, hMP, hPO⟩, u86⟩ := r87
  have zu86 := u86.size
  obtain ⟨mP, hmP⟩ : ∃ m, portsM V.ld (k : Int) [] = m := ⟨_, rfl⟩
  rw [hmP] at hMP hPO
  have lrP := hMP.lt
  have hPl := hPO.len
  have hPr : ∀ q ∈ mP, 0 ≤ q.2 ∧ q.2 ≤ 100000000 := fun q hq => by have := hPO.rng q hq; omega
  have hjE : j = V.hl.length := by omega
  refine t_rangeI Try.underlying135 rfl rfl rfl hMP (fun it92 w89 eit92 sit92 J91 u90 => ?_)
  have zu90 := u90.size
  refine t_nil' (hK83 _ _ (c_block ?_))
  have B94 := ((I61.kx u86).kx u90)
  refine c_loop (γ := List (Int × Int) × Int × Int) (fun gg => [(4, .slice ao2 rs.length c2), (7, .pointer (some ⟨pv, 0, none⟩)), (9, .pointer (some ⟨bk34, 0, none⟩)), (10, .pointer (some ⟨bk46, 0, none⟩)), (27, .slice ab bs.length cb), (28, .int .i64 (bs.length : Int)), (29, .int .i64 (k : Int)), (65, .pointer (some ⟨it92, 0, none⟩))]) (fun gg w => Upd (fun i => i = bk46 ∨ i = it92) w89 w ∧ Blk w bk46 65 [.int .i64 (nth V.ls k), .int .i64 (sumH (k : Int) ((V.hl.take j).map layH)), .int .i64 gg.2.1, .int .i64 gg.2.2] ∧ (ItI mP gg.1 w rP it92) ∧ (gg.2.1 + sumIf (fun q => decide (q = (nth bs k).to)) gg.1 = sumIf (fun q => decide (q = (nth bs k).to)) mP) ∧ (gg.2.2 + sumIf (fun q => !decide (q = (nth bs k).to)) gg.1 = sumIf (fun q => !decide (q = (nth bs k).to)) mP) ∧ (0 ≤ gg.2.1 ∧ 0 ≤ gg.2.2) ∧ (∀ q ∈ gg.1, q ∈ mP)) (fun gg => gg.1.length) (mP, 0, 0) ⟨rfl, rfl, rfl, rfl, rfl, rfl, rfl, rfl, trivial⟩ ⟨Upd.refl _ _, B94, J91, (by simp), (by simp), (show (0 : Int) ≤ 0 ∧ (0 : Int) ≤ 0 from by decide), (fun q hq => hq)⟩ ?_
  intro gg w96 hW K95 hK95
  obtain ⟨left, x, y⟩ := gg
  change WC _ _ _ _ _ _ [(4, .slice ao2 rs.length c2), (7, .pointer (some ⟨pv, 0, none⟩)), (9, .pointer (some ⟨bk34, 0, none⟩)), (10, .pointer (some ⟨bk46, 0, none⟩)), (27, .slice ab bs.length cb), (28, .int .i64 (bs.length : Int)), (29, .int .i64 (k : Int)), (65, .pointer (some ⟨it92, 0, none⟩))] _
  change Upd (fun i => i = bk46 ∨ i = it92) w89 w96 ∧ Blk w96 bk46 65 [.int .i64 (nth V.ls k), .int .i64 (sumH (k : Int) ((V.hl.take j).map layH)), .int .i64 x, .int .i64 y] ∧ (ItI mP left w96 rP it92) ∧ (x + sumIf (fun q => decide (q = (nth bs k).to)) left = sumIf (fun q => decide (q = (nth bs k).to)) mP) ∧ (y + sumIf (fun q => !decide (q = (nth bs k).to)) left = sumIf (fun q => !decide (q = (nth bs k).to)) mP) ∧ (0 ≤ x ∧ 0 ≤ y) ∧ (∀ q ∈ left, q ∈ mP) at hW
  obtain ⟨u97, I98, I99, I100, I101, I102, I103⟩ := hW
  have zu97 := u97.size
  have hJ := I99; clear I99
  have hx := I100; clear I100
  have hy := I101; clear I101
  have hxy := I102; clear I102
  have hlm := I103; clear I103
  have hs1 := sumIf_rng (P := (fun q => decide (q = (nth bs k).to))) (B := 100000000) (by omega) (m := left) (fun q hq => hPr q (hlm q hq))
  have hs2 := sumIf_rng (P := (fun q => !decide (q = (nth bs k).to))) (B := 100000000) (by omega) (m := left) (fun q hq => hPr q (hlm q hq))
  have ht1 := sumIf_rng (P := (fun q => decide (q = (nth bs k).to))) (B := 100000000) (by omega) hPr
  have ht2 := sumIf_rng (P := (fun q => !decide (q = (nth bs k).to))) (B := 100000000) (by omega) hPr
  refine c_seq fun K105 hK105 => (c_region (t_nextI rfl rfl rfl hJ (fun hlf => ?_) (fun l1 p l2 w106 hlf sw106 N108 u107 => ?_)))
  ·
   refine t_extract rfl rfl rfl rfl (t_nil' (hK105 _ _ (c_seq fun K109 hK109 => (c_cond_f rfl (c_exit (hK82 _ _ (c_region (t_move rfl rfl rfl (t_loadN (vs := [.int .i64 (nth V.ls k), .int .i64 (sumH (k : Int) ((V.hl.take j).map layH)), .int .i64 x, .int .i64 y]) Try.isAgg65 Try.sizeOf65 rfl rfl rfl (I98.at.sub 0 4) rfl (t_bslice (ps := [(0, .agg #[.int .i64 (nth V.ls k), .int .i64 (sumH (k : Int) ((V.hl.take j).map layH)), .int .i64 x, .int .i64 y])]) (cs := [.int .i64 (nth V.ls k), .int .i64 (sumH (k : Int) ((V.hl.take j).map layH)), .int .i64 x, .int .i64 y]) (e := 65) rfl rfl ⟨rfl, rfl⟩ (fun w => by kernel_rfl) (fun bk110 w111 ebk110 sbk110 B112 u113 => ?_)))))))))))
   have zu113 := u113.size
   have D115 := (((((((((hacc.keep u37 (fun _ h => h)).keep u40 (fun hb => show ¬ (g2 = bk34) by first | omega | assumption)).keep u49 (fun _ h => h)).keep u52 (fun hb => show ¬ (g2 = bk46) by first | omega | assumption)).keep u60 (fun hb => show ¬ (g2 = bk46) by first | omega | assumption)).keep u86 (fun _ h => h)).keep u90 (fun _ h => h)).keep u97 (fun hb => show ¬ (g2 = bk46 ∨ g2 = it92) by first | omega | assumption)).keep u113 (fun _ h => h))
   have hcnt : (⟨(nth V.ls k), sumH (k : Int) ((V.hl.take j).map layH), x, y⟩ : Cnt) = coP bs V.st k := by
     rw [hlf] at hx hy
     simp only [sumIf, Int.add_zero] at hx hy
     unfold coP
     rw [hx, hy, hPO.sum, hPO.sum, inL_eq, inL_eq, hjE, List.take_length]; rfl
   refine t_append (z := .agg #[.int .i64 0, .int .i64 0, .int .i64 0, .int .i64 0]) (bytes := 32) (k := 4) (base := w9.heap.size) (⟨(nth V.ls k), sumH (k : Int) ((V.hl.take j).map layH), x, y⟩ : Cnt) Try.underlying58 (by kernel_rfl) rfl (by decide) (fun _ => rfl) (by intro x; simp [encCnt, Value.oneCell']) rfl rfl rfl rfl D115 B112 (by omega) (by omega) (by decide) (fun ao116 gb117 cp118 w119 A120 u121 gegb117 lngb117 => ?_)
   have zu121 := u121.size
   have lt_gb117 := A120.lt
   refine t_assign rfl rfl rfl (t_nil' (hK31 _ _ (c_region (t_ari rfl rfl rfl rfl rfl (by omega) (t_move rfl rfl rfl (t_nil' ?_))))))
   exact hK22 (k + 1, ao116, gb117, cp118, (rs ++ [(⟨(nth V.ls k), sumH (k : Int) ((V.hl.take j).map layH), x, y⟩ : Cnt)])) _ _ (by show bs.length - (k + 1) < bs.length - k; omega) ⟨rfl, rfl, rfl, rfl, rfl, trivial⟩ ⟨((((((((((u24.next u37 (fun _ _ h => h.elim)).next u40 (fun i hi h => by omega)).next u49 (fun _ _ h => h.elim)).next u52 (fun i hi h => by omega)).next u60 (fun i hi h => by omega)).next u86 (fun _ _ h => h.elim)).next u90 (fun _ _ h => h.elim)).next u97 (fun i hi h => by omega)).next u113 (fun _ _ h => h.elim)).next u121 (fun i hi h => by omega)), (by omega), (co_snoc hrs hcnt), A120⟩
  have zu107 := u107.size
  have hpr := hPr p (hlm p (by rw [hlf]; simp))
  rw [hlf, mid_sum] at hx hy hs1 hs2
  refine t_extract rfl rfl rfl rfl (t_nil' (hK105 _ _ (c_seq fun K124 hK124 => (c_cond_t rfl (c_skip (hK124 _ _ (c_block (c_seq fun K125 hK125 => (c_region (t_entryII rfl rfl rfl N108 (t_extract rfl rfl rfl rfl (t_extract rfl rfl rfl rfl (t_assign rfl rfl rfl (t_assign rfl rfl rfl (t_nil' (hK125 _ _ (c_seq fun K126 hK126 => (c_region (t_move rfl rfl rfl (t_field Try.underlying93 rfl Try.sizeOf3 (2) rfl rfl rfl rfl ?_))))))))))))))))))))
  have B127 := (((((((B41.kx u49).keep u52 (by omega)).keep u60 (by omega)).kx u86).kx u90).keep u97 (by omega)).keep u107 (by omega))
  refine t_load Try.isAgg3 rfl rfl rfl (B127.get rfl) (t_cmp rfl rfl rfl rfl rfl (t_nil' (hK126 _ _ (c_condp rfl (fun g74 => ?_) (fun g74 => ?_)))))
  ·
   refine c_region (t_field Try.underlying65 rfl Try.sizeOf3 (2) rfl rfl rfl rfl ?_)
   have B128 := (I98.keep u107 (by omega))
   refine t_load Try.isAgg3 rfl rfl rfl (B128.get rfl) (t_move rfl rfl rfl (t_ari rfl rfl rfl rfl rfl (by omega) (t_field Try.underlying65 rfl Try.sizeOf3 (2) rfl rfl rfl rfl (t_st (vs := [.int .i64 (x + p.2)]) Try.sizeOf3 rfl rfl rfl B128 rfl rfl rfl rfl (fun w129 sw129 B131 u130 => ?_)))))
   have zu130 := u130.size
   have B131 : Blk w129 bk46 65 [.int .i64 (nth V.ls k), .int .i64 (sumH (k : Int) ((V.hl.take j).map layH)), .int .i64 (x + p.2), .int .i64 y] := B131
   refine t_nil' ?_
   have D133 := (N108.1.keep u130 (show ¬ (rP = bk46) by omega) (show ¬ (it92 = bk46) by omega))
   exact hK95 (l1 ++ l2, x + p.2, y) _ _ (by show (l1 ++ l2).length < left.length; rw [hlf, List.length_append, List.length_append, List.length_cons]; omega) ⟨rfl, rfl, rfl, rfl, rfl, rfl, rfl, rfl, trivial⟩ ⟨((u97.next u107 (fun i hi h => by omega)).next u130 (fun i hi h => by omega)), B131, D133, (by show x + p.2 + sumIf (fun q => decide (q = (nth bs k).to)) (l1 ++ l2) = sumIf (fun q => decide (q = (nth bs k).to)) mP; rw [if_pos (by simpa using g74)] at hx; omega), (by show y + sumIf (fun q => !decide (q = (nth bs k).to)) (l1 ++ l2) = sumIf (fun q => !decide (q = (nth bs k).to)) mP; rw [if_neg (by simpa using g74)] at hy; omega), (by show 0 ≤ x + p.2 ∧ 0 ≤ y; omega), (fun q hq => hlm q (by rw [hlf]; rcases List.mem_append.1 hq with h | h; (exact List.mem_append_left _ h); (exact List.mem_append_right _ (List.mem_cons_of_mem _ h))))⟩
  refine c_region (t_field Try.underlying65 rfl Try.sizeOf3 (3) rfl rfl rfl rfl ?_)
  have B134 := (I98.keep u107 (by omega))
  refine t_load Try.isAgg3 rfl rfl rfl (B134.get rfl) (t_move rfl rfl rfl (t_ari rfl rfl rfl rfl rfl (by omega) (t_field Try.underlying65 rfl Try.sizeOf3 (3) rfl rfl rfl rfl (t_st (vs := [.int .i64 (y + p.2)]) Try.sizeOf3 rfl rfl rfl B134 rfl rfl rfl rfl (fun w135 sw135 B137 u136 => ?_)))))
  have zu136 := u136.size
  have B137 : Blk w135 bk46 65 [.int .i64 (nth V.ls k), .int .i64 (sumH (k : Int) ((V.hl.take j).map layH)), .int .i64 x, .int .i64 (y + p.2)] := B137
  refine t_nil' ?_
  have D139 := (N108.1.keep u136 (show ¬ (rP = bk46) by omega) (show ¬ (it92 = bk46) by omega))
  exact hK95 (l1 ++ l2, x, y + p.2) _ _ (by show (l1 ++ l2).length < left.length; rw [hlf, List.length_append, List.length_append, List.length_cons]; omega) ⟨rfl, rfl, rfl, rfl, rfl, rfl, rfl, rfl, trivial⟩ ⟨((u97.next u107 (fun i hi h => by omega)).next u136 (fun i hi h => by omega)), B137, D139, (by show x + sumIf (fun q => decide (q = (nth bs k).to)) (l1 ++ l2) = sumIf (fun q => decide (q = (nth bs k).to)) mP; rw [if_neg (by simpa using g74)] at hx; omega), (by show y + p.2 + sumIf (fun q => !decide (q = (nth bs k).to)) (l1 ++ l2) = sumIf (fun q => !decide (q = (nth bs k).to)) mP; rw [if_pos (by simpa using g74)] at hy; omega), (by show 0 ≤ x ∧ 0 ≤ y + p.2; omega), (fun q hq => hlm q (by rw [hlf]; rcases List.mem_append.1 hq with h | h; (exact List.mem_append_left _ h); (exact List.mem_append_right _ (List.mem_cons_of_mem _ h))))⟩
 refine c_exit (hK19 _ _ (c_seq fun K140 hK140 => (c_region (t_move rfl rfl rfl (t_assign rfl rfl rfl (t_assign rfl rfl rfl (t_assign rfl rfl rfl (t_nil' (hK140 _ _ (c_ret (f_ret3 (v1 := .slice ao2 rs.length c2) (v2 := .int .i64 0) (v3 := .int .i64 0) Try.results22 rfl rfl rfl ?_)))))))))))
 exact ⟨.inr ⟨by rw [hsl], ao2, g2, c2, rs, rfl, by rw [hrs, hsl, show k = bs.length by omega], hacc.sl (fun _ => rfl)⟩, E28⟩

end Go.Proofs.Ytblkphbblkncdaa
