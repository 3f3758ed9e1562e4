/-
  Part 7 of the proof: contracts and plain laws. Conditions: none.
-/
import Derived.Test.YtclinbbghnebaaaGreatDK6
namespace Go.Proofs.YtclinbbghnebaaaGreat
open Go Go.RowKit Go.Proofs.Tryz
set_option maxRecDepth 10000

theorem okOff_b {x : Off} (h : okOff x = true) : 0 ≤ x.b ∧ x.b ≤ 100000 := by
  unfold okOff at h; rw [decide_eq_true_eq] at h; omega
theorem best2_c (i k : Int) (l : List Off) (al : Option Addr) (bl ol cl bx : Nat) (w0 : World) (hb : Blk w0 bx 66 [.slice al l.length cl]) (hl : Sl encOff 5 w0 al bl ol l) (hok : ∀ x ∈ l, okOff x = true) (hi : 0 ≤ i ∧ i < (l.length : Int)) (hk : 0 ≤ k ∧ k < (l.length : Int)) :
    CallsV Tryz.prog 48 [.int .i64 i, .int .i64 k, .pointer (some ⟨bx, 0, none⟩)] w0 (fun v w' => v = .int .i64 (cmpO l i k) ∧ Ext w0 w') := by
 have hq1 := okOff_b (hok _ (nth_mem (xs := l) (i := i.toNat) (by omega)))
 have hq2 := okOff_b (hok _ (nth_mem (xs := l) (i := k.toNat) (by omega)))
 refine f_n func48 ?_
 refine go ?_
 refine c_drawnM follows (fun _ => False) (OTl [0, 2, 4, 6, 8, 10, 12, 14, 16, 18, 20, 22]) (by kernel_rfl) fun w3 u4 => ?_
 have zu4 := u4.size
 have E5 := Sc.mk ((Upd.refl (fun _ => False) w0).nx u4)
 refine go ?_
 refine y_i i.toNat (hl.keep E5.u (fun _ h => h)) (fun _ => ?_) (hj := (by omega))
 refine go ?_
 refine y_i k.toNat (hl.keep E5.u (fun _ h => h)) (fun _ => ?_) (hj := (by omega))
 refine go ?_
 refine f_1 results48 ?_
 exact ⟨rfl, u_d⟩

theorem insSort_c (ds : List Int) (b cd : Nat) (l : List Off) (al : Option Addr) (bl ol cl bx : Nat) (w0 : World) (hd : Blk w0 b 3 (ds.map (Value.int .i64))) (hdl : ds.length ≤ 12) (hdm : ∀ x ∈ ds, 0 ≤ x ∧ x < (l.length : Int)) (hb : Blk w0 bx 66 [.slice al l.length cl]) (hl : Sl encOff 5 w0 al bl ol l) (hok : ∀ x ∈ l, okOff x = true) (hbx : bx ≠ b) (hbl : 0 < l.length → bl ≠ b) :
    CallsV Tryz.prog 179 [.slice (some ⟨b, 0, none⟩) ds.length cd, .int .i64 0, .int .i64 (ds.length : Int), .func (.func 48) #[] #[.pointer (some ⟨bx, 0, none⟩)]] w0 (fun v w' => (v = .tuple #[] ∧ Blk w' b 3 ((insI (cmpO l) ds (ds.length - 1)).map (Value.int .i64))) ∧ Upd (fun i => i = b) w0 w') := by
 refine f_n func179 ?_
 refine go ?_
 refine x_l1 (fun i => i = b) [0, 1, 2, 3] (fun (k : Nat) => [(8, .int .i64 ((k + 1 : Nat) : Int))]) (fun k w => Blk w b 3 ((insI (cmpO l) ds k).map (Value.int .i64)) ∧ (k < ds.length ∨ k = 0)) (fun k => ds.length - k) 0 ⟨hd, (.inr rfl)⟩ ?_
 rintro k w3 ⟨I5, hk⟩ u4 zu4 K2 hK2
 refine go ?_
 refine q_p (fun g14 => ?_) fun g14 => ?_
 ·
  refine go ?_
  have hip := insI_perm (cmpO l) ds k (by omega)
  have hil := hip.length_eq
  refine x_l2 (fun i => i = b) [0, 1, 2, 3, 8] (fun (j : Nat) (es : List Int) => [(9, .int .i64 (j : Int))]) (fun j es w => Blk w b 3 (es.map (Value.int .i64)) ∧ (insJ (cmpO l) es j = insI (cmpO l) ds (k + 1)) ∧ (es.length = ds.length) ∧ (∀ x ∈ es, 0 ≤ x ∧ x < (l.length : Int)) ∧ (j < ds.length)) (fun j es => j) (k + 1) (insI (cmpO l) ds k) ⟨I5, rfl, hil, (fun x hx => hdm x (hip.mem_iff.1 hx)), (by omega)⟩ ?_
  rintro j es w12 ⟨I14, hins, hel, hmem, hj⟩ u13 zu13 K11 hK11
  refine go ?_
  refine c_drawnM follows (fun _ => False) (OTl [0, 2, 4, 6, 8, 10, 12, 14, 16, 18, 20, 22, 24, 26, 29, 30, 32]) (by kernel_rfl) fun w18 u19 => ?_
  have zu19 := u19.size
  refine go ?_
  refine y_splitp 21 rfl (fun g21 => ?_) (fun g21 => ?_)
  ·
   refine go ?_
   have B21 := (I14.kx u19)
   refine y_i j (SlI.own B21) (fun _ => ?_)
   refine go ?_
   refine y_i (j - 1) (SlI.own B21) (fun _ => ?_) (hj := (by omega))
   refine go ?_
   have D24 := (((hl.keep u4 (fun h9 => show ¬ (bl = b) by have := hbl h9; omega)).keep u13 (fun h9 => show ¬ (bl = b) by have := hbl h9; omega)).keep u19 (fun _ h => h))
   have B25 := (((hb.keep u4 (by omega)).keep u13 (by omega)).kx u19)
   refine x_c func48 rfl rfl (best2_c (nth es j) (nth es (j - 1)) l al bl ol cl bx _ B25 D24 hok (hmem _ (nth_mem (by omega))) (hmem _ (nth_mem (by omega)))) ?_
   rintro _ w27 ⟨rfl, u28⟩ zu28
   refine go ?_
   refine q_p (fun g34 => ?_) fun g34 => ?_
   ·
    refine go ?_
    refine c_drawnM follows (fun i => i = b) (.look 0 (.look 1 (.look 2 (.look 3 (.look 4 (.look 5 (.look 6 (.look 7 (.look 8 (.look 10 (.look 11 (.look 12 (.act 9 (.act 13 (.look 14 (.act 15 (.act 16 (.act 17 .done .stop) .stop) .stop)) .stop) (.act 13 (.act 9 (.look 14 (.act 15 (.act 16 (.act 17 .done .stop) .stop) .stop)) .stop) .stop)))))))))))))) (by kernel_rfl) fun w32 u33 => ?_
    have zu33 := u33.size
    refine go ?_
    have B35 := ((B21.kx u28).kx u33)
    refine y_i (j - 1) (SlI.own B35) (fun _ => ?_) (hj := (by omega))
    refine go ?_
    refine y_i j (SlI.own B35) (fun _ => ?_)
    refine s_or ?_ ?_
    ·
     refine go ?_
     refine y_i j (SlI.own B35) (fun _ => ?_)
     refine go ?_
     refine t_storeI (ls := es) (v := (nth es (j - 1))) j sizeOf3 rfl rfl rfl B35 (by omega) (fun w39 sw39 B41 u40 => ?_)
     refine go ?_
     have i43 : (j - 1) < (es.set j (nth es (j - 1))).length := (by rw [List.length_set]; omega)
     refine g_i (j - 1) (SlI.own B41) (fun _ => ?_) (hj := (by omega))
     refine go ?_
     refine t_storeI (ls := (es.set j (nth es (j - 1)))) (v := (nth es j)) (j - 1) sizeOf3 rfl rfl rfl B41 (by omega) (fun w44 sw44 B46 u45 => ?_)
     refine go ?_
     exact hK11 (j - 1) ((es.set j (nth es (j - 1))).set (j - 1) (nth es j)) ⟨B46, (by rw [← hins]; obtain ⟨i9, rfl⟩ : ∃ i9, j = i9 + 1 := ⟨j - 1, by omega⟩; simp only [Nat.add_sub_cancel] at *; rw [insJ, if_pos (by omega)]), (by rw [List.length_set, List.length_set]; exact hel), (fun x hx => hmem x ((show ((es.set j (nth es (j - 1))).set (j - 1) (nth es j)).Perm es by obtain ⟨i9, rfl⟩ : ∃ i9, j = i9 + 1 := ⟨j - 1, by omega⟩; exact swp_perm (by omega)).mem_iff.1 hx)), (by omega)⟩ (hs := by exact ⟨(congrArg some (congrArg (Value.int .i64) (by show (j : Int) - 1 = ((j - 1 : Nat) : Int); omega))), rfl, rfl, rfl, rfl, rfl, trivial⟩)
    refine go ?_
    refine y_i j (SlI.own B35) (fun _ => ?_)
    refine go ?_
    refine t_storeI (ls := es) (v := (nth es (j - 1))) j sizeOf3 rfl rfl rfl B35 (by omega) (fun w49 sw49 B51 u50 => ?_)
    refine go ?_
    have i53 : (j - 1) < (es.set j (nth es (j - 1))).length := (by rw [List.length_set]; omega)
    refine g_i (j - 1) (SlI.own B51) (fun _ => ?_) (hj := (by omega))
    refine go ?_
    refine t_storeI (ls := (es.set j (nth es (j - 1)))) (v := (nth es j)) (j - 1) sizeOf3 rfl rfl rfl B51 (by omega) (fun w54 sw54 B56 u55 => ?_)
    refine go ?_
    exact hK11 (j - 1) ((es.set j (nth es (j - 1))).set (j - 1) (nth es j)) ⟨B56, (by rw [← hins]; obtain ⟨i9, rfl⟩ : ∃ i9, j = i9 + 1 := ⟨j - 1, by omega⟩; simp only [Nat.add_sub_cancel] at *; rw [insJ, if_pos (by omega)]), (by rw [List.length_set, List.length_set]; exact hel), (fun x hx => hmem x ((show ((es.set j (nth es (j - 1))).set (j - 1) (nth es j)).Perm es by obtain ⟨i9, rfl⟩ : ∃ i9, j = i9 + 1 := ⟨j - 1, by omega⟩; exact swp_perm (by omega)).mem_iff.1 hx)), (by omega)⟩ (hs := by exact ⟨(congrArg some (congrArg (Value.int .i64) (by show (j : Int) - 1 = ((j - 1 : Nat) : Int); omega))), rfl, rfl, rfl, rfl, rfl, trivial⟩)
   refine go ?_
   have hend : insI (cmpO l) ds (k + 1) = es := by
     rw [← hins]
     rcases Nat.eq_zero_or_pos j with rfl | h9
     · rfl
     · obtain ⟨i9, rfl⟩ : ∃ i9, j = i9 + 1 := ⟨j - 1, by omega⟩
       rw [insJ, if_neg]; (try simp only [Nat.add_sub_cancel] at *); omega
   have B58 := (B21.kx u28)
   exact hK2 (k + 1) ⟨(by rw [hend]; exact B58), (.inl (by omega))⟩
  refine go ?_
  have hend : insI (cmpO l) ds (k + 1) = es := by
    rw [← hins]
    rcases Nat.eq_zero_or_pos j with rfl | h9
    · rfl
    · obtain ⟨i9, rfl⟩ : ∃ i9, j = i9 + 1 := ⟨j - 1, by omega⟩
      rw [insJ, if_neg]; (try simp only [Nat.add_sub_cancel] at *); omega
  have B59 := (I14.kx u19)
  exact hK2 (k + 1) ⟨(by rw [hend]; exact B59), (.inl (by omega))⟩
 refine go ?_
 refine f_ret0 results179 ?_
 obtain rfl : k = ds.length - 1 := by omega
 exact ⟨⟨rfl, I5⟩, u_d⟩

theorem stable_c (ds : List Int) (b cd : Nat) (l : List Off) (al : Option Addr) (bl ol cl bx : Nat) (w0 : World) (hd : Blk w0 b 3 (ds.map (Value.int .i64))) (hdl : ds.length ≤ 12) (hdm : ∀ x ∈ ds, 0 ≤ x ∧ x < (l.length : Int)) (hb : Blk w0 bx 66 [.slice al l.length cl]) (hl : Sl encOff 5 w0 al bl ol l) (hok : ∀ x ∈ l, okOff x = true) (hbx : bx ≠ b) (hbl : 0 < l.length → bl ≠ b) :
    CallsV Tryz.prog 112 [.slice (some ⟨b, 0, none⟩) ds.length cd, .int .i64 (ds.length : Int), .func (.func 48) #[] #[.pointer (some ⟨bx, 0, none⟩)]] w0 (fun v w' => (v = .tuple #[] ∧ Blk w' b 3 ((insI (cmpO l) ds (ds.length - 1)).map (Value.int .i64))) ∧ Upd (fun i => i = b) w0 w') := by
 refine f_n func112 ?_
 refine go ?_
 refine c_rounds 1 (WR.weak [(0, .slice (some ⟨b, 0, none⟩) ds.length cd), (1, .int .i64 (ds.length : Int)), (2, .func (.func 48) #[] #[.pointer (some ⟨bx, 0, none⟩)]), (6, .int .i64 20), (7, .int .i64 0), (8, .int .i64 20)] ⟨rfl, rfl, rfl, rfl, rfl, rfl, trivial⟩ (r_round fun K4 hK4 => (q_of ?_)))
 refine go ?_
 refine q_p (fun g13 => ?_) fun g13 => ?_
 ·
  exfalso; omega
 refine go ?_
 refine x_c func179 rfl rfl (insSort_c ds b cd l al bl ol cl bx _ hd hdl hdm hb hl hok hbx hbl) ?_
 rintro _ w9 ⟨⟨rfl, hB9⟩, u10⟩ zu10
 refine go ?_
 refine c_rounds 1 (WR.weak [(0, .slice (some ⟨b, 0, none⟩) ds.length cd), (1, .int .i64 (ds.length : Int)), (2, .func (.func 48) #[] #[.pointer (some ⟨bx, 0, none⟩)]), (6, .int .i64 20)] ⟨rfl, rfl, rfl, rfl, trivial⟩ (r_round fun K13 hK13 => (q_of ?_)))
 refine go ?_
 refine q_p (fun g30 => ?_) fun g30 => ?_
 ·
  exfalso; omega
 refine go ?_
 refine f_ret0 results112 ?_
 exact ⟨⟨rfl, hB9⟩, u_d⟩

theorem sortStable_c (ds : List Int) (b cd : Nat) (l : List Off) (al : Option Addr) (bl ol cl bx : Nat) (w0 : World) (hd : Blk w0 b 3 (ds.map (Value.int .i64))) (hdl : ds.length ≤ 12) (hdm : ∀ x ∈ ds, 0 ≤ x ∧ x < (l.length : Int)) (hb : Blk w0 bx 66 [.slice al l.length cl]) (hl : Sl encOff 5 w0 al bl ol l) (hok : ∀ x ∈ l, okOff x = true) (hbx : bx ≠ b) (hbl : 0 < l.length → bl ≠ b) :
    CallsV Tryz.prog 47 [.slice (some ⟨b, 0, none⟩) ds.length cd, .func (.func 48) #[] #[.pointer (some ⟨bx, 0, none⟩)]] w0 (fun v w' => (v = .tuple #[] ∧ Blk w' b 3 ((insI (cmpO l) ds (ds.length - 1)).map (Value.int .i64))) ∧ Upd (fun i => i = b) w0 w') := by
 refine f_n func47 ?_
 refine go ?_
 refine x_c func112 rfl rfl (stable_c ds b cd l al bl ol cl bx _ hd hdl hdm hb hl hok hbx hbl) ?_
 rintro _ w2 ⟨⟨rfl, hB9⟩, u3⟩ zu3
 refine go ?_
 refine f_ret0 results47 ?_
 exact ⟨⟨rfl, hB9⟩, u_d⟩

end Go.Proofs.YtclinbbghnebaaaGreat
namespace Go.Proofs.YtclinbbghnebaaaGreat
open Go Go.RowKit Go.Proofs.Tryz
set_option maxRecDepth 10000

/-- A run in memory. -/
structure HR where
  r : Rn
  ao : Option Addr
  g : Nat
  o : Nat
  cp : Nat
instance : Inhabited HR := ⟨⟨default, none, 0, 0, 0⟩⟩
def encHR (h : HR) : List Value := [.slice h.ao h.r.s.length h.cp, .int .i64 h.r.g]
theorem nth_mapR (hs : List HR) (i : Nat) : nth (hs.map HR.r) i = (nth hs i).r := by
  unfold nth
  rw [List.getD_eq_getElem?_getD, List.getD_eq_getElem?_getD, List.getElem?_map]
  cases hs[i]? <;> rfl
theorem nth_mapR_set (hs : List HR) (i : Nat) (x : HR) : (hs.set i x).map HR.r = (hs.map HR.r).set i x.r := by rw [List.map_set]
set_option maxHeartbeats 4000000 in
theorem best3_c (h : Hul) (lt : List Int) (at_ : Option Addr) (bt ot ct : Nat) (now : Rn) (an : Option Addr) (bn on cn : Nat) (l : List Off) (al : Option Addr) (bl ol cl bx : Nat) (hs : List HR) (af : Option Addr) (gf of_ cf bf : Nat) (nl : Nat) (w0 : World) (hx : Blk w0 bx 66 [.slice al l.length cl]) (hl : Sl encOff 5 w0 al bl ol l) (hok : ∀ x ∈ l, okOff x = true) (_hll : l.length ≤ 12) (hf : Blk w0 bf 144 [.slice af l.length cf]) (hs0 : Sl encHR 2 w0 af gf of_ hs) (hsl : hs.length = l.length) (hm : ∀ h ∈ hs, Sl encI 1 w0 h.ao h.g h.o h.r.s) (hB : ∀ h ∈ hs, RnB 12 h.r) (hnl0 : lt.length = nl) (hlt : Sl encI 1 w0 at_ bt ot lt) (hltl : lt.length ≤ 12) (hltm : ∀ i ∈ lt, 0 ≤ i ∧ i < (l.length : Int)) (hns : Sl encI 1 w0 an bn on now.s) (hnb : RnB 1 now) (hh : okHul h) (_hpos : 0 < w0.heap.size) :
    CallsV Tryz.prog 49 [.agg #[.int .i64 h.p, .int .i64 h.m, .int .i64 h.s, .int .i64 h.c], .slice at_ nl ct, .agg #[.slice an now.s.length cn, .int .i64 now.g], .pointer (some ⟨bx, 0, none⟩), .pointer (some ⟨bf, 0, none⟩)] w0 (fun v w' => (∃ ao g o cp, v = .agg #[.slice ao (List.length (bstP l h (hs.map HR.r) now lt).s) cp, .int .i64 (bstP l h (hs.map HR.r) now lt).g] ∧ Sl encI 1 w' ao g o (bstP l h (hs.map HR.r) now lt).s ∧ (0 < (bstP l h (hs.map HR.r) now lt).s.length → g = bn ∨ w0.heap.size ≤ g)) ∧ Ext w0 w') := by
 have hxlt := hx.lt
 have hflt := hf.lt
 refine f_n func49 ?_
 refine go ?_
 refine x_b fun bk2 w3 ebk2 sbk2 B4 u5 => ?_
 refine x_b fun bk7 w8 ebk7 sbk7 B9 u10 => ?_
 refine x_n fun bk12 w13 ebk12 sbk12 B14 u15 => ?_
 refine go ?_
 refine x_n fun bk18 w19 ebk18 sbk18 B20 u21 => ?_
 refine x_s fun w23 sw23 B25 u24 => ?_
 have E26 := Sc.mk ((((((Upd.refl (fun _ => False) w0).nx u5).nx u10).nx u15).nx u21).next u24 (fun i hi h => by omega))
 refine go ?_
 refine x_l5 (fun i => i = bk18) [3, 4, 5, 7, 8, 9, 16, 17] (fun (k : Nat) (ao : Option Addr) (gw : Nat) (oo : Nat) (co : Nat) => [(18, .int .i64 (k : Int))]) (fun k ao gw oo co w => Blk w bk18 148 [.slice ao ((bstK l h (hs.map HR.r) now lt k).s.length) co, .int .i64 ((bstK l h (hs.map HR.r) now lt k).g)] ∧ (k ≤ lt.length) ∧ (Sl encI 1 w ao gw oo (bstK l h (hs.map HR.r) now lt k).s) ∧ (0 < (bstK l h (hs.map HR.r) now lt k).s.length → (gw = bn ∧ bn < w0.heap.size) ∨ w23.heap.size ≤ gw)) (fun k ao gw oo co => lt.length - k) 0 an bn on cn ⟨B25, (Nat.zero_le _), (hns.keep E26.u (fun _ h => h)), (fun h9 => .inl ⟨rfl, hns.lt h9⟩)⟩ ?_
 rintro k ao gw oo co w30 ⟨I32, hk, hos, hgo⟩ u31 zu31 K29 hK29
 have E33 := Sc.mk (E26.u.next u31 (fun i hi h => by omega))
 refine go ?_
 refine q_p (fun g19 => ?_) fun g19 => ?_
 ·
  have hik := hltm _ (nth_mem (xs := lt) (i := k) (by omega))
  have hbk := bstK_bd hok hh (fun i hi => by rw [nth_mapR]; exact hB _ (nth_mem (by simpa using hi))) hnb hltm (by rw [List.length_map]; exact hsl) k (by omega)
  have hb1 := hB _ (nth_mem (xs := hs) (i := (nth lt k).toNat) (by omega))
  have hb2 := hnb.1
  have hb3 := hnb.2
  obtain ⟨hb4, hb5, hb6⟩ := hb1
  obtain ⟨hk1, hk2, hk3⟩ := hbk
  have hfa := farH_rng hh (hok _ (nth_mem (xs := l) (i := (nth lt k).toNat) (by omega)))
  have hfc := Int.mul_nonneg hfa.1 hh.2.2.2.1
  have hfd := Int.mul_le_mul hfa.2 hh.2.2.2.2 hh.2.2.2.1 (by omega)
  have hnl : (nxR l h (hs.map HR.r) now (nth lt k)).s.length = now.s.length + (nth hs (nth lt k).toNat).r.s.length := by simp only [nxR, nth_mapR, List.length_append]
  have hng : (nxR l h (hs.map HR.r) now (nth lt k)).g = now.g + (nth hs (nth lt k).toNat).r.g - farH h (nth l (nth lt k).toNat) * h.c := by simp only [nxR, nth_mapR]
  refine go ?_
  refine g_i k (hlt.keep E33.u (fun _ h => h)) (fun _ => ?_)
  refine go ?_
  refine c_drawnM follows (fun _ => False) (OTl [0, 2, 4, 6, 8, 11, 12, 14, 16, 18, 20]) (by kernel_rfl) fun w40 u41 => ?_
  have zu41 := u41.size
  have E42 := Sc.mk (E33.u.nx u41)
  refine go ?_
  refine y_i ((nth lt k).toNat) (hl.keep E42.u (fun _ h => h)) (fun _ => ?_) (hj := (by omega))
  refine go ?_
  refine x_c func50 rfl rfl (reach_c h (nth l ((nth lt k).toNat)) _ hh (hok _ (nth_mem (by omega)))) ?_
  rintro _ w45 ⟨rfl, u46⟩ zu46
  refine go ?_
  refine c_drawnM follows (fun _ => False) (.look 0 (.look 1 (.look 2 (.look 3 (.look 4 (.look 5 (.look 6 (.look 9 (.look 10 (.look 11 (.look 12 (.look 13 (.look 14 (.look 15 (.look 16 (.look 17 (.look 18 (.act 7 (.act 8 (.look 19 (.act 20 (.act 21 .done .stop) .stop)) (.act 20 (.act 8 (.look 19 (.act 21 .done .stop)) .stop) .stop)) (.act 20 (.act 7 (.act 8 (.look 19 (.act 21 .done .stop)) .stop) .stop) .stop))))))))))))))))))) (by kernel_rfl) fun w50 u51 => ?_
  have zu51 := u51.size
  have E52 := Sc.mk ((E42.u.nx u46).nx u51)
  refine go ?_
  refine y_i ((nth lt k).toNat) (hs0.keep E52.u (fun _ h => h)) (fun _ => ?_) (hj := (by omega))
  refine go ?_
  refine y_i ((nth lt k).toNat) (hs0.keep E52.u (fun _ h => h)) (fun _ => ?_) (hj := (by omega))
  iterate 5 refine st1 ?_
  refine y_same 49 (v := .int .i64 ((nxR l h (hs.map HR.r) now (nth lt k)).g)) rfl (by rw [hng]) (s_or ?_ ?_)
  ·
   refine go ?_
   refine x_l fun bk55 w56 ebk55 sbk55 B57 u58 => ?_
   have E59 := Sc.mk (E52.u.nx u58)
   refine go ?_
   refine s_or ?_ ?_
   ·
    refine go ?_
    have hLm9 : ∀ h ∈ [(⟨now.s, an, bn, on, cn⟩ : Hl Int), ⟨(nth hs (nth lt k).toNat).r.s, (nth hs (nth lt k).toNat).ao, (nth hs (nth lt k).toNat).g, (nth hs (nth lt k).toNat).o, (nth hs (nth lt k).toNat).cp⟩], Sl encI 1 w56 h.ao h.g h.o h.xs ∧ h.xs.length ≤ 1000 := by
      intro h hh
      simp only [List.mem_cons, List.not_mem_nil, or_false] at hh
      rcases hh with rfl | rfl
      · exact ⟨(hns.keep E59.u (fun _ h => h)), by show now.s.length ≤ 1000; omega⟩
      · exact ⟨((hm (nth hs (nth lt k).toNat) (nth_mem (by omega))).keep E59.u (fun _ h => h)), by show (nth hs (nth lt k).toNat).r.s.length ≤ 1000; omega⟩
    refine x_c func51 rfl rfl (concatI_c [(⟨now.s, an, bn, on, cn⟩ : Hl Int), ⟨(nth hs (nth lt k).toNat).r.s, (nth hs (nth lt k).toNat).ao, (nth hs (nth lt k).toNat).g, (nth hs (nth lt k).toNat).o, (nth hs (nth lt k).toNat).cp⟩] (nxR l h (hs.map HR.r) now (nth lt k)).s (some ⟨bk55, 0, none⟩) bk55 0 2 _ (Sl.ofBlk (enc := encHl) (fun _ => rfl) B57) hLm9 (Nat.le_refl 2) (by simp [nxR, nth_mapR]) (by omega)) ?_
    rintro _ w61 ⟨⟨aC, gC, cC, rfl, hcC⟩, u62⟩ zu62
    have hcs := hcC.sl (fun _ => rfl)
    have hcg := hcC.ge
    have hcl := hcs.lt
    refine go ?_
    refine x_n fun bk65 w66 ebk65 sbk65 B67 u68 => ?_
    refine go ?_
    refine x_s fun w70 sw70 B72 u71 => ?_
    refine go ?_
    refine t_splitp 52 rfl (fun g52 => ?_) (fun g52 => ?_)
    ·
     refine go ?_
     have D75 := ((hcs.keep u68 (fun _ h => h)).keep u71 (fun h9 => show ¬ (gC = bk65) by have := hcg h9; have := hcl h9; omega))
     have D76 := (((((((hos.keep u41 (fun _ h => h)).keep u46 (fun _ h => h)).keep u51 (fun _ h => h)).keep u58 (fun _ h => h)).keep u62 (fun _ h => h)).keep u68 (fun _ h => h)).keep u71 (fun h9 => show ¬ (gw = bk65) by have := hgo h9; have := hos.lt h9; omega))
     refine x_c func52 rfl rfl (better_c ((nxR l h (hs.map HR.r) now (nth lt k)).s) aC gC 0 cC ((bstK l h (hs.map HR.r) now lt k).s) ao gw oo co ((nxR l h (hs.map HR.r) now (nth lt k)).g) ((bstK l h (hs.map HR.r) now lt k).g) _ D75 D76 (by omega) (by omega)) ?_
     rintro _ w78 ⟨rfl, u79⟩ zu79
     refine go ?_
     refine q_b (fun g56 => ?_) fun g56 => ?_
     ·
      refine go ?_
      refine x_s fun w82 sw82 B84 u83 => ?_
      refine go ?_
      have hst : (bstK l h (hs.map HR.r) now lt (k + 1)) = (nxR l h (hs.map HR.r) now (nth lt k)) := if_pos ⟨by unfold inT; omega, by assumption⟩
      have D86 := ((D75.keep u79 (fun _ h => h)).keep u83 (fun h9 => show ¬ (gC = bk18) by have := hcg h9; have := hcl h9; omega))
      exact hK29 (k + 1) aC gC 0 cC ⟨(by rw [hst]; exact B84), (by omega), (by rw [hst]; exact D86), (by rw [hst]; exact fun h9 => by have := hcg h9; omega)⟩
     refine go ?_
     have hst : (bstK l h (hs.map HR.r) now lt (k + 1)) = (bstK l h (hs.map HR.r) now lt k) := if_neg (fun h9 => by have h8 := h9.1; have h7 := h9.2; unfold inT at h8; first | omega | simp_all)
     have B87 := ((((((((I32.kx u41).kx u46).kx u51).kx u58).kx u62).kx u68).keep u71 (by omega)).kx u79)
     have D88 := (D76.keep u79 (fun _ h => h))
     exact hK29 (k + 1) ao gw oo co ⟨(by rw [hst]; exact B87), (by omega), (by rw [hst]; exact D88), (by rw [hst]; exact hgo)⟩
    refine go ?_
    have hst : (bstK l h (hs.map HR.r) now lt (k + 1)) = (bstK l h (hs.map HR.r) now lt k) := if_neg (fun h9 => by have h8 := h9.1; have h7 := h9.2; unfold inT at h8; first | omega | simp_all)
    have B89 := (((((((I32.kx u41).kx u46).kx u51).kx u58).kx u62).kx u68).keep u71 (by omega))
    have D90 := (((((((hos.keep u41 (fun _ h => h)).keep u46 (fun _ h => h)).keep u51 (fun _ h => h)).keep u58 (fun _ h => h)).keep u62 (fun _ h => h)).keep u68 (fun _ h => h)).keep u71 (fun h9 => show ¬ (gw = bk65) by have := hgo h9; have := hos.lt h9; omega))
    exact hK29 (k + 1) ao gw oo co ⟨(by rw [hst]; exact B89), (by omega), (by rw [hst]; exact D90), (by rw [hst]; exact hgo)⟩
   refine go ?_
   refine x_n fun bk91 w92 ebk91 sbk91 B93 u94 => ?_
   have E95 := Sc.mk (E59.u.nx u94)
   refine go ?_
   have B96 := (B57.kx u94)
   have hLm9 : ∀ h ∈ [(⟨now.s, an, bn, on, cn⟩ : Hl Int), ⟨(nth hs (nth lt k).toNat).r.s, (nth hs (nth lt k).toNat).ao, (nth hs (nth lt k).toNat).g, (nth hs (nth lt k).toNat).o, (nth hs (nth lt k).toNat).cp⟩], Sl encI 1 w92 h.ao h.g h.o h.xs ∧ h.xs.length ≤ 1000 := by
     intro h hh
     simp only [List.mem_cons, List.not_mem_nil, or_false] at hh
     rcases hh with rfl | rfl
     · exact ⟨(hns.keep E95.u (fun _ h => h)), by show now.s.length ≤ 1000; omega⟩
     · exact ⟨((hm (nth hs (nth lt k).toNat) (nth_mem (by omega))).keep E95.u (fun _ h => h)), by show (nth hs (nth lt k).toNat).r.s.length ≤ 1000; omega⟩
   refine x_c func51 rfl rfl (concatI_c [(⟨now.s, an, bn, on, cn⟩ : Hl Int), ⟨(nth hs (nth lt k).toNat).r.s, (nth hs (nth lt k).toNat).ao, (nth hs (nth lt k).toNat).g, (nth hs (nth lt k).toNat).o, (nth hs (nth lt k).toNat).cp⟩] (nxR l h (hs.map HR.r) now (nth lt k)).s (some ⟨bk55, 0, none⟩) bk55 0 2 _ (Sl.ofBlk (enc := encHl) (fun _ => rfl) B96) hLm9 (Nat.le_refl 2) (by simp [nxR, nth_mapR]) (by omega)) ?_
   rintro _ w98 ⟨⟨aC, gC, cC, rfl, hcC⟩, u99⟩ zu99
   have hcs := hcC.sl (fun _ => rfl)
   have hcg := hcC.ge
   have hcl := hcs.lt
   refine go ?_
   refine x_s fun w102 sw102 B104 u103 => ?_
   refine go ?_
   refine t_splitp 52 rfl (fun g52 => ?_) (fun g52 => ?_)
   ·
    refine go ?_
    have D107 := (hcs.keep u103 (fun h9 => show ¬ (gC = bk91) by have := hcg h9; have := hcl h9; omega))
    have D108 := (((((((hos.keep u41 (fun _ h => h)).keep u46 (fun _ h => h)).keep u51 (fun _ h => h)).keep u58 (fun _ h => h)).keep u94 (fun _ h => h)).keep u99 (fun _ h => h)).keep u103 (fun h9 => show ¬ (gw = bk91) by have := hgo h9; have := hos.lt h9; omega))
    refine x_c func52 rfl rfl (better_c ((nxR l h (hs.map HR.r) now (nth lt k)).s) aC gC 0 cC ((bstK l h (hs.map HR.r) now lt k).s) ao gw oo co ((nxR l h (hs.map HR.r) now (nth lt k)).g) ((bstK l h (hs.map HR.r) now lt k).g) _ D107 D108 (by omega) (by omega)) ?_
    rintro _ w110 ⟨rfl, u111⟩ zu111
    refine go ?_
    refine q_b (fun g56 => ?_) fun g56 => ?_
    ·
     refine go ?_
     refine x_s fun w114 sw114 B116 u115 => ?_
     refine go ?_
     have hst : (bstK l h (hs.map HR.r) now lt (k + 1)) = (nxR l h (hs.map HR.r) now (nth lt k)) := if_pos ⟨by unfold inT; omega, by assumption⟩
     have D118 := ((D107.keep u111 (fun _ h => h)).keep u115 (fun h9 => show ¬ (gC = bk18) by have := hcg h9; have := hcl h9; omega))
     exact hK29 (k + 1) aC gC 0 cC ⟨(by rw [hst]; exact B116), (by omega), (by rw [hst]; exact D118), (by rw [hst]; exact fun h9 => by have := hcg h9; omega)⟩
    refine go ?_
    have hst : (bstK l h (hs.map HR.r) now lt (k + 1)) = (bstK l h (hs.map HR.r) now lt k) := if_neg (fun h9 => by have h8 := h9.1; have h7 := h9.2; unfold inT at h8; first | omega | simp_all)
    have B119 := ((((((((I32.kx u41).kx u46).kx u51).kx u58).kx u94).kx u99).keep u103 (by omega)).kx u111)
    have D120 := (D108.keep u111 (fun _ h => h))
    exact hK29 (k + 1) ao gw oo co ⟨(by rw [hst]; exact B119), (by omega), (by rw [hst]; exact D120), (by rw [hst]; exact hgo)⟩
   refine go ?_
   have hst : (bstK l h (hs.map HR.r) now lt (k + 1)) = (bstK l h (hs.map HR.r) now lt k) := if_neg (fun h9 => by have h8 := h9.1; have h7 := h9.2; unfold inT at h8; first | omega | simp_all)
   have B121 := (((((((I32.kx u41).kx u46).kx u51).kx u58).kx u94).kx u99).keep u103 (by omega))
   have D122 := (((((((hos.keep u41 (fun _ h => h)).keep u46 (fun _ h => h)).keep u51 (fun _ h => h)).keep u58 (fun _ h => h)).keep u94 (fun _ h => h)).keep u99 (fun _ h => h)).keep u103 (fun h9 => show ¬ (gw = bk91) by have := hgo h9; have := hos.lt h9; omega))
   exact hK29 (k + 1) ao gw oo co ⟨(by rw [hst]; exact B121), (by omega), (by rw [hst]; exact D122), (by rw [hst]; exact hgo)⟩
  refine go ?_
  refine x_n fun bk123 w124 ebk123 sbk123 B125 u126 => ?_
  refine go ?_
  refine x_l fun bk128 w129 ebk128 sbk128 B130 u131 => ?_
  have E132 := Sc.mk ((E52.u.nx u126).nx u131)
  refine go ?_
  have hLm9 : ∀ h ∈ [(⟨now.s, an, bn, on, cn⟩ : Hl Int), ⟨(nth hs (nth lt k).toNat).r.s, (nth hs (nth lt k).toNat).ao, (nth hs (nth lt k).toNat).g, (nth hs (nth lt k).toNat).o, (nth hs (nth lt k).toNat).cp⟩], Sl encI 1 w129 h.ao h.g h.o h.xs ∧ h.xs.length ≤ 1000 := by
    intro h hh
    simp only [List.mem_cons, List.not_mem_nil, or_false] at hh
    rcases hh with rfl | rfl
    · exact ⟨(hns.keep E132.u (fun _ h => h)), by show now.s.length ≤ 1000; omega⟩
    · exact ⟨((hm (nth hs (nth lt k).toNat) (nth_mem (by omega))).keep E132.u (fun _ h => h)), by show (nth hs (nth lt k).toNat).r.s.length ≤ 1000; omega⟩
  refine x_c func51 rfl rfl (concatI_c [(⟨now.s, an, bn, on, cn⟩ : Hl Int), ⟨(nth hs (nth lt k).toNat).r.s, (nth hs (nth lt k).toNat).ao, (nth hs (nth lt k).toNat).g, (nth hs (nth lt k).toNat).o, (nth hs (nth lt k).toNat).cp⟩] (nxR l h (hs.map HR.r) now (nth lt k)).s (some ⟨bk128, 0, none⟩) bk128 0 2 _ (Sl.ofBlk (enc := encHl) (fun _ => rfl) B130) hLm9 (Nat.le_refl 2) (by simp [nxR, nth_mapR]) (by omega)) ?_
  rintro _ w134 ⟨⟨aC, gC, cC, rfl, hcC⟩, u135⟩ zu135
  have hcs := hcC.sl (fun _ => rfl)
  have hcg := hcC.ge
  have hcl := hcs.lt
  refine go ?_
  refine x_s fun w138 sw138 B140 u139 => ?_
  refine go ?_
  refine t_splitp 52 rfl (fun g52 => ?_) (fun g52 => ?_)
  ·
   refine go ?_
   have D143 := (hcs.keep u139 (fun h9 => show ¬ (gC = bk123) by have := hcg h9; have := hcl h9; omega))
   have D144 := (((((((hos.keep u41 (fun _ h => h)).keep u46 (fun _ h => h)).keep u51 (fun _ h => h)).keep u126 (fun _ h => h)).keep u131 (fun _ h => h)).keep u135 (fun _ h => h)).keep u139 (fun h9 => show ¬ (gw = bk123) by have := hgo h9; have := hos.lt h9; omega))
   refine x_c func52 rfl rfl (better_c ((nxR l h (hs.map HR.r) now (nth lt k)).s) aC gC 0 cC ((bstK l h (hs.map HR.r) now lt k).s) ao gw oo co ((nxR l h (hs.map HR.r) now (nth lt k)).g) ((bstK l h (hs.map HR.r) now lt k).g) _ D143 D144 (by omega) (by omega)) ?_
   rintro _ w146 ⟨rfl, u147⟩ zu147
   refine go ?_
   refine q_b (fun g56 => ?_) fun g56 => ?_
   ·
    refine go ?_
    refine x_s fun w150 sw150 B152 u151 => ?_
    refine go ?_
    have hst : (bstK l h (hs.map HR.r) now lt (k + 1)) = (nxR l h (hs.map HR.r) now (nth lt k)) := if_pos ⟨by unfold inT; omega, by assumption⟩
    have D154 := ((D143.keep u147 (fun _ h => h)).keep u151 (fun h9 => show ¬ (gC = bk18) by have := hcg h9; have := hcl h9; omega))
    exact hK29 (k + 1) aC gC 0 cC ⟨(by rw [hst]; exact B152), (by omega), (by rw [hst]; exact D154), (by rw [hst]; exact fun h9 => by have := hcg h9; omega)⟩
   refine go ?_
   have hst : (bstK l h (hs.map HR.r) now lt (k + 1)) = (bstK l h (hs.map HR.r) now lt k) := if_neg (fun h9 => by have h8 := h9.1; have h7 := h9.2; unfold inT at h8; first | omega | simp_all)
   have B155 := ((((((((I32.kx u41).kx u46).kx u51).kx u126).kx u131).kx u135).keep u139 (by omega)).kx u147)
   have D156 := (D144.keep u147 (fun _ h => h))
   exact hK29 (k + 1) ao gw oo co ⟨(by rw [hst]; exact B155), (by omega), (by rw [hst]; exact D156), (by rw [hst]; exact hgo)⟩
  refine go ?_
  have hst : (bstK l h (hs.map HR.r) now lt (k + 1)) = (bstK l h (hs.map HR.r) now lt k) := if_neg (fun h9 => by have h8 := h9.1; have h7 := h9.2; unfold inT at h8; first | omega | simp_all)
  have B157 := (((((((I32.kx u41).kx u46).kx u51).kx u126).kx u131).kx u135).keep u139 (by omega))
  have D158 := (((((((hos.keep u41 (fun _ h => h)).keep u46 (fun _ h => h)).keep u51 (fun _ h => h)).keep u126 (fun _ h => h)).keep u131 (fun _ h => h)).keep u135 (fun _ h => h)).keep u139 (fun h9 => show ¬ (gw = bk123) by have := hgo h9; have := hos.lt h9; omega))
  exact hK29 (k + 1) ao gw oo co ⟨(by rw [hst]; exact B157), (by omega), (by rw [hst]; exact D158), (by rw [hst]; exact hgo)⟩
 refine go ?_
 refine x_s fun w160 sw160 B162 u161 => ?_
 refine go ?_
 refine f_ret1 (v := .agg #[.slice ao ((bstK l h (hs.map HR.r) now lt k).s.length) co, .int .i64 ((bstK l h (hs.map HR.r) now lt k).g)]) results49 ⟨_, _, rfl, run_loadVarN (vs := [.slice ao ((bstK l h (hs.map HR.r) now lt k).s.length) co, .int .i64 ((bstK l h (hs.map HR.r) now lt k).g)]) isAgg148 sizeOf148 rfl (B162.at.sub 0 2)⟩ ?_
 have D164 := (hos.keep u161 (fun h9 => show ¬ (gw = bk12) by have := hgo h9; have := hos.lt h9; omega))
 obtain rfl : k = lt.length := by omega
 exact ⟨⟨_, _, _, _, rfl, D164, fun h9 => by have := hgo h9; omega⟩, u_d⟩

end Go.Proofs.YtclinbbghnebaaaGreat
namespace Go.Proofs.YtclinbbghnebaaaGreat
open Go Go.RowKit

/-- How a round ends. -/
def postY (B : Nat) (Z : World → Prop) (W : World) : Exit → Act → World → Prop
  | .normal, _, W' => KeepsFrom B W W' ∧ Z W'
  | _, _, _ => False

/-- What an iterator is given: at each place where Y holds it may hand out the element, and Z holds behind it; the loop's own blocks l and D are left alone. -/
structure Hands {γ : Type} (P : Program) (l D : Nat) (enc : γ → Value) (Y Z : γ → World → Prop) (R : World → Prop) : Prop where
  keep : ∀ {W W' : World} {S : Nat → Prop}, R W → Upd S W W' → ¬ S l → ¬ S D → R W'
  cell : ∀ {W : World} {b : Nat} {t : TypeId} {cs : List Value}, R W → Blk W b t cs → b ≠ l ∧ b ≠ D
  hand : ∀ x W, Y x W → R W → YieldAt Fence.wide 3 P l #[enc x] W fun e W' => e = .returned (.bool true) ∧ Z x W' ∧ R W'

/-- It stands where the loop's record is turned. -/
def Turned {β : Type} (l : Nat) (I : β → World → Prop) : Prop := ∀ x W W', I x W → (∃ r, W.heap[l]? = some (.loop r)) → Upd (· = l) W W' → I x W'
theorem Turned.and {β : Type} {l : Nat} {I J : β → World → Prop} (h : Turned l I) (k : Turned l J) : Turned l (fun x W => I x W ∧ J x W) := fun x W W' hi hl u => ⟨h x W W' hi.1 hl u, k x W W' hi.2 hl u⟩

section
variable {P : Program} {Q : Exit → Act → World → Prop} {N : Nat} {ds : List Deferred} {L : Slots} {w : World}

theorem c_rangeY {γ : Type} {go : Operand} {p : Nat} {assign body : Code} {gf : Nat} {lb : List Value} {enc : γ → Value} (ho : Own P gf)
    (hp : Nat.blt p N = true) (hg : ev L go = some (.func (.func gf) #[] lb.toArray))
    (Y Z : γ → World → Prop) (E : World → Prop) (hYo : Turned (w.heap.size + 1) Y) (hZo : Turned (w.heap.size + 1) Z) (hEo : Turned (w.heap.size + 1) (fun (_ : Unit) W => E W))
    (hiter : ∀ (l D : Nat) (R : World → Prop) (W : World), D = w.heap.size → l = w.heap.size + 1 → W.heap.size = w.heap.size + 2 → Ext w W → Hands P l D enc Y Z R → R W →
      CallsV P gf (.func (.yield l) #[] #[] :: lb) W (fun _ W' => E W' ∧ R W'))
    (La : γ → Slots)
    (hassign : ∀ (l : Nat) (x : γ) (W : World) (K : Act → World → Prop), Y x W → (∀ L', Sub (La x) L' → QK K N [] L' W) → WC (some l) P (Exit.then K (fun _ _ _ => False)) N [] assign ((p, enc x) :: L) W)
    (hbody : ∀ (l : Nat) (x : γ) (W : World), Y x W → WC (some l) P (postY w.heap.size (Z x) W) N [] body (La x) W)
    (hdone : ∀ (D : Nat) (W : World), w.heap.size ≤ D → E W → W.heap[D]? = some (.deferred (some [])) → QK (Q .normal) N (mark D :: ds) L W) :
    WC none P Q N ds (.rangeFunc go #[p] assign body) L w := by
  refine ⟨fun a ha => ?_⟩
  refine wpIn_rangeFunc (F := Fence.wide) (n := 3) fun fn hfn => ?_
  let rec_ : LoopState → Loop := fun st => { state := st, pending := none, fn, tmps := a.tmps, params := #[p], assign, body, defers := w.heap.size }
  have hsz : ((w.alloc (.deferred (some []))).alloc (.loop (rec_ .ready))).heap.size = w.heap.size + 2 := by simp
  have hD1 : ((w.alloc (.deferred (some []))).alloc (.loop (rec_ .ready))).heap[w.heap.size]? = some (.deferred (some [])) :=
    ((Upd.alloc (w.alloc (.deferred (some []))) (.loop (rec_ .ready))).block _ (by simp) id).trans (World.alloc_heap_new w _)
  have hL1 : ((w.alloc (.deferred (some []))).alloc (.loop (rec_ .ready))).heap[w.heap.size + 1]? = some (.loop (rec_ .ready)) := by
    have := World.alloc_heap_new (w.alloc (.deferred (some []))) (.loop (rec_ .ready)); rwa [World.size_alloc] at this
  have hE1 : Ext w ((w.alloc (.deferred (some []))).alloc (.loop (rec_ .ready))) := (Upd.alloc _ _).trans (Upd.alloc _ _)
  refine ⟨w.heap.size + 1, [{ target := .collected w.heap.size, args := #[] }], (w.alloc (.deferred (some []))).alloc (.loop (rec_ .ready)), { target := .fn (.func gf) lb.toArray, args := #[.func (.yield (w.heap.size + 1)) #[] #[]] }, (w.alloc (.deferred (some []))).alloc (.loop (rec_ .ready)), gf,
    #[.func (.yield (w.heap.size + 1)) #[] #[]] ++ lb.toArray, (w.alloc (.deferred (some []))).alloc (.loop (rec_ .ready)), ?_, ?_, fun _ _ => trivial, ?_, fun _ => by decide, ?_⟩
  · exact run_enterLoop_outer _ _ _ _ _
  · simp only [resolve, ha.ev hg]
    simp [go_sem]
  · simp [invoke, go_sem, ho.run]
  · have hH : Hands P (w.heap.size + 1) w.heap.size enc Y Z (fun W => W.heap[w.heap.size + 1]? = some (.loop (rec_ .ready)) ∧ W.heap[w.heap.size]? = some (.deferred (some []))) := by
      refine ⟨fun {W W' S} h u h1 h2 => ⟨(u.block _ (lt_of_block h.1) h1).trans h.1, (u.block _ (lt_of_block h.2) h2).trans h.2⟩, fun {W b t cs} h hb => ⟨fun e => ?_, fun e => ?_⟩, ?_⟩
      · subst e; unfold Blk at hb; rw [h.1] at hb; cases hb
      · subst e; unfold Blk at hb; rw [h.2] at hb; cases hb
      rintro x W hy ⟨hl, hd⟩
      have hyl := run_yield (P := P) (args := #[enc x]) hl rfl
      refine ⟨fn, _, assign, body, hyl, roundIn_of_wpIn (F := Fence.wide) (n := 3) hfn ?_⟩
      have hk : Kn N [] ((p, enc x) :: L) { tmps := (#[p].zip #[enc x]).foldl (fun t (p, v) => t.setIfInBounds p v) a.tmps, defers := [] } := by
        have h1 : Kn N [] L { a with defers := [] } := ⟨ha.size, rfl, ha.get⟩
        have h2 := h1.put (enc x) hp
        refine ⟨by simpa [Act.put] using h2.size, rfl, fun k v hv => ?_⟩
        have := h2.get k v hv
        simpa [Act.put] using this
      refine hassign (w.heap.size + 1) x W _ hy (fun L' hs => ⟨fun a' ha' => ?_⟩) _ hk
      have hlt := lt_of_block hl
      refine ⟨_, run_beginRound hl rfl, ?_⟩
      have hl2 : (W.putObj (w.heap.size + 1) (.loop { rec_ .ready with state := .busy })).heap[w.heap.size + 1]? = some (.loop { rec_ .ready with state := .busy }) := World.putObj_heap_same hlt
      have hd2 : (W.putObj (w.heap.size + 1) (.loop { rec_ .ready with state := .busy })).heap[w.heap.size]? = some (.deferred (some [])) := (World.putObj_heap_other (by omega)).trans hd
      refine wpIn_mono (hbody (w.heap.size + 1) x _ (hYo _ _ _ hy ⟨_, hl⟩ (Upd.putObj _ _ _)) a' (ha'.sub hs)) ?_
      rintro e a3 W3 hp3
      cases e with
      | normal =>
        obtain ⟨hk3, hz⟩ := hp3
        have hl3 := hk3.same _ _ (by omega) hl2 rfl
        have hd3 := hk3.same _ _ (Nat.le_refl _) hd2 rfl
        exact ⟨_, _, run_endRound none hl3, rfl, hZo _ _ _ hz ⟨_, hl3⟩ (Upd.putObj _ _ _), World.putObj_heap_same (lt_of_block hl3), (World.putObj_heap_other (by omega)).trans hd3⟩
      | ret => exact hp3.elim
      | exit id => exact hp3.elim
      | goto t => exact hp3.elim
      | panic ch => exact hp3.elim
      | outgrown => exact hp3.elim
    have hc := hiter (w.heap.size + 1) w.heap.size _ _ rfl rfl hsz hE1 hH ⟨hL1, hD1⟩
    have e0 : (#[Value.func (.yield (w.heap.size + 1)) #[] #[]] ++ lb.toArray : Array Value) = (Value.func (.yield (w.heap.size + 1)) #[] #[] :: lb).toArray := by simp
    rw [e0]
    refine callsIn_wide.2 (Calls.mono hc ?_)
    rintro e W2 ⟨v, rfl, hE, hl, hd⟩
    refine ⟨none, _, run_endLoop hl (by simp [rec_]), ?_⟩
    refine hdone w.heap.size _ (Nat.le_refl _) (hEo () _ _ hE ⟨_, hl⟩ (Upd.putObj _ _ _)) ((World.putObj_heap_other (by omega)).trans hd) _ ⟨ha.size, ?_, ha.get⟩
    simp [ha.defers, mark]
end

theorem Blk.notLoop {w : World} {b l : Nat} {t : TypeId} {cs : List Value} (h : Blk w b t cs) (hl : ∃ r, w.heap[l]? = some (.loop r)) : b ≠ l := fun e => by
  subst e; obtain ⟨r, hl⟩ := hl; unfold Blk at h; rw [hl] at h; cases h
theorem Sl.notLoop {α : Type} [Inhabited α] {enc : α → List Value} {k : Nat} (hk : ∀ x, 0 < (enc x).length) {w : World} {ao : Option Addr} {b o l : Nat} {xs : List α} (h : Sl enc k w ao b o xs) (hl : ∃ r, w.heap[l]? = some (.loop r)) (hp : 0 < xs.length) : b ≠ l := fun e => by
  subst e; obtain ⟨r, hl⟩ := hl
  have h1 := h.at_ 0 hp 0 _ (List.getElem?_eq_getElem (hk _))
  simp [World.cell?, hl] at h1
end Go.Proofs.YtclinbbghnebaaaGreat
namespace Go.Proofs.YtclinbbghnebaaaGreat
open Go Go.RowKit

/-- What an iterator is given: at each place where Y holds it may hand out the element, and Z holds behind it; the loop's own blocks l and D are left alone. -/
structure Hands2 {γ : Type} (P : Program) (l D : Nat) (enc enc' : γ → Value) (Y Z : γ → World → Prop) (R : World → Prop) : Prop where
  keep : ∀ {W W' : World} {S : Nat → Prop}, R W → Upd S W W' → ¬ S l → ¬ S D → R W'
  cell : ∀ {W : World} {b : Nat} {t : TypeId} {cs : List Value}, R W → Blk W b t cs → b ≠ l ∧ b ≠ D
  hand : ∀ x W, Y x W → R W → YieldAt Fence.wide 3 P l #[enc x, enc' x] W fun e W' => e = .returned (.bool true) ∧ Z x W' ∧ R W'

section
variable {P : Program} {Q : Exit → Act → World → Prop} {N : Nat} {ds : List Deferred} {L : Slots} {w : World}

theorem c_rangeY2 {γ : Type} {go : Operand} {p p' : Nat} {assign body : Code} {gf : Nat} {lb : List Value} {enc enc' : γ → Value} (ho : Own P gf)
    (hp : Nat.blt p N = true) (hp' : Nat.blt p' N = true) (hg : ev L go = some (.func (.func gf) #[] lb.toArray))
    (Y Z : γ → World → Prop) (E : World → Prop) (hZo : Turned (w.heap.size + 1) Z) (hEo : Turned (w.heap.size + 1) (fun (_ : Unit) W => E W))
    (hiter : ∀ (l D : Nat) (R : World → Prop) (W : World), D = w.heap.size → l = w.heap.size + 1 → W.heap.size = w.heap.size + 2 → Ext w W → Hands2 P l D enc enc' Y Z R → R W →
      CallsV P gf (.func (.yield l) #[] #[] :: lb) W (fun _ W' => E W' ∧ R W'))
    {δ : Type} (La : γ → δ → Slots) (Y' : γ → δ → World → Prop) (hYo' : ∀ d, Turned (w.heap.size + 1) (fun x W => Y' x d W))
    (hassign : ∀ (l : Nat) (x : γ) (W : World) (K : Act → World → Prop), Y x W → (∀ d L' W', Sub (La x d) L' → Ext W W' → Y' x d W' → QK K N [] L' W') → WC (some l) P (Exit.then K (fun _ _ _ => False)) N [] assign ((p', enc' x) :: (p, enc x) :: L) W)
    (hbody : ∀ (l : Nat) (x : γ) (d : δ) (W : World), Y' x d W → WC (some l) P (postY w.heap.size (Z x) W) N [] body (La x d) W)
    (hdone : ∀ (D : Nat) (W : World), w.heap.size ≤ D → E W → W.heap[D]? = some (.deferred (some [])) → QK (Q .normal) N (mark D :: ds) L W) :
    WC none P Q N ds (.rangeFunc go #[p, p'] assign body) L w := by
  refine ⟨fun a ha => ?_⟩
  refine wpIn_rangeFunc (F := Fence.wide) (n := 3) fun fn hfn => ?_
  let rec_ : LoopState → Loop := fun st => { state := st, pending := none, fn, tmps := a.tmps, params := #[p, p'], assign, body, defers := w.heap.size }
  have hsz : ((w.alloc (.deferred (some []))).alloc (.loop (rec_ .ready))).heap.size = w.heap.size + 2 := by simp
  have hD1 : ((w.alloc (.deferred (some []))).alloc (.loop (rec_ .ready))).heap[w.heap.size]? = some (.deferred (some [])) :=
    ((Upd.alloc (w.alloc (.deferred (some []))) (.loop (rec_ .ready))).block _ (by simp) id).trans (World.alloc_heap_new w _)
  have hL1 : ((w.alloc (.deferred (some []))).alloc (.loop (rec_ .ready))).heap[w.heap.size + 1]? = some (.loop (rec_ .ready)) := by
    have := World.alloc_heap_new (w.alloc (.deferred (some []))) (.loop (rec_ .ready)); rwa [World.size_alloc] at this
  have hE1 : Ext w ((w.alloc (.deferred (some []))).alloc (.loop (rec_ .ready))) := (Upd.alloc _ _).trans (Upd.alloc _ _)
  refine ⟨w.heap.size + 1, [{ target := .collected w.heap.size, args := #[] }], (w.alloc (.deferred (some []))).alloc (.loop (rec_ .ready)), { target := .fn (.func gf) lb.toArray, args := #[.func (.yield (w.heap.size + 1)) #[] #[]] }, (w.alloc (.deferred (some []))).alloc (.loop (rec_ .ready)), gf,
    #[.func (.yield (w.heap.size + 1)) #[] #[]] ++ lb.toArray, (w.alloc (.deferred (some []))).alloc (.loop (rec_ .ready)), ?_, ?_, fun _ _ => trivial, ?_, fun _ => by decide, ?_⟩
  · exact run_enterLoop_outer _ _ _ _ _
  · simp only [resolve, ha.ev hg]
    simp [go_sem]
  · simp [invoke, go_sem, ho.run]
  · have hH : Hands2 P (w.heap.size + 1) w.heap.size enc enc' Y Z (fun W => W.heap[w.heap.size + 1]? = some (.loop (rec_ .ready)) ∧ W.heap[w.heap.size]? = some (.deferred (some []))) := by
      refine ⟨fun {W W' S} h u h1 h2 => ⟨(u.block _ (lt_of_block h.1) h1).trans h.1, (u.block _ (lt_of_block h.2) h2).trans h.2⟩, fun {W b t cs} h hb => ⟨fun e => ?_, fun e => ?_⟩, ?_⟩
      · subst e; unfold Blk at hb; rw [h.1] at hb; cases hb
      · subst e; unfold Blk at hb; rw [h.2] at hb; cases hb
      rintro x W hy ⟨hl, hd⟩
      have hyl := run_yield (P := P) (args := #[enc x, enc' x]) hl rfl
      refine ⟨fn, _, assign, body, hyl, roundIn_of_wpIn (F := Fence.wide) (n := 3) hfn ?_⟩
      have hk : Kn N [] ((p', enc' x) :: (p, enc x) :: L) { tmps := (#[p, p'].zip #[enc x, enc' x]).foldl (fun t (p, v) => t.setIfInBounds p v) a.tmps, defers := [] } := by
        have h1 : Kn N [] L { a with defers := [] } := ⟨ha.size, rfl, ha.get⟩
        have h2 := (h1.put (enc x) hp).put (enc' x) hp'
        refine ⟨by simpa [Act.put] using h2.size, rfl, fun k v hv => ?_⟩
        have := h2.get k v hv
        simpa [Act.put] using this
      refine hassign (w.heap.size + 1) x W _ hy (fun δ L' W hs hu hy' => ⟨fun a' ha' => ?_⟩) _ hk
      replace hl := (hu.block _ (lt_of_block hl) (fun h => h)).trans hl
      replace hd := (hu.block _ (lt_of_block hd) (fun h => h)).trans hd
      have hlt := lt_of_block hl
      refine ⟨_, run_beginRound hl rfl, ?_⟩
      have hl2 : (W.putObj (w.heap.size + 1) (.loop { rec_ .ready with state := .busy })).heap[w.heap.size + 1]? = some (.loop { rec_ .ready with state := .busy }) := World.putObj_heap_same hlt
      have hd2 : (W.putObj (w.heap.size + 1) (.loop { rec_ .ready with state := .busy })).heap[w.heap.size]? = some (.deferred (some [])) := (World.putObj_heap_other (by omega)).trans hd
      refine wpIn_mono (hbody (w.heap.size + 1) x δ _ (hYo' _ _ _ _ hy' ⟨_, hl⟩ (Upd.putObj _ _ _)) a' (ha'.sub hs)) ?_
      rintro e a3 W3 hp3
      cases e with
      | normal =>
        obtain ⟨hk3, hz⟩ := hp3
        have hl3 := hk3.same _ _ (by omega) hl2 rfl
        have hd3 := hk3.same _ _ (Nat.le_refl _) hd2 rfl
        exact ⟨_, _, run_endRound none hl3, rfl, hZo _ _ _ hz ⟨_, hl3⟩ (Upd.putObj _ _ _), World.putObj_heap_same (lt_of_block hl3), (World.putObj_heap_other (by omega)).trans hd3⟩
      | ret => exact hp3.elim
      | exit id => exact hp3.elim
      | goto t => exact hp3.elim
      | panic ch => exact hp3.elim
      | outgrown => exact hp3.elim
    have hc := hiter (w.heap.size + 1) w.heap.size _ _ rfl rfl hsz hE1 hH ⟨hL1, hD1⟩
    have e0 : (#[Value.func (.yield (w.heap.size + 1)) #[] #[]] ++ lb.toArray : Array Value) = (Value.func (.yield (w.heap.size + 1)) #[] #[] :: lb).toArray := by simp
    rw [e0]
    refine callsIn_wide.2 (Calls.mono hc ?_)
    rintro e W2 ⟨v, rfl, hE, hl, hd⟩
    refine ⟨none, _, run_endLoop hl (by simp [rec_]), ?_⟩
    refine hdone w.heap.size _ (Nat.le_refl _) (hEo () _ _ hE ⟨_, hl⟩ (Upd.putObj _ _ _)) ((World.putObj_heap_other (by omega)).trans hd) _ ⟨ha.size, ?_, ha.get⟩
    simp [ha.defers, mark]

theorem c_rangeZ {γ : Type} {go : Operand} {p : Nat} {assign body : Code} {gf : Nat} {lb : List Value} {enc : γ → Value} (ho : Own P gf)
    (hp : Nat.blt p N = true) (hg : ev L go = some (.func (.func gf) #[] lb.toArray))
    (Y Z : γ → World → Prop) (E : World → Prop) (hZo : Turned (w.heap.size + 1) Z) (hEo : Turned (w.heap.size + 1) (fun (_ : Unit) W => E W))
    (hiter : ∀ (l D : Nat) (R : World → Prop) (W : World), D = w.heap.size → l = w.heap.size + 1 → W.heap.size = w.heap.size + 2 → Ext w W → Hands P l D enc Y Z R → R W →
      CallsV P gf (.func (.yield l) #[] #[] :: lb) W (fun _ W' => E W' ∧ R W'))
    {δ : Type} (La : γ → δ → Slots) (Y' : γ → δ → World → Prop) (hYo' : ∀ d, Turned (w.heap.size + 1) (fun x W => Y' x d W))
    (hassign : ∀ (l : Nat) (x : γ) (W : World) (K : Act → World → Prop), Y x W → (∀ d L' W', Sub (La x d) L' → Ext W W' → Y' x d W' → QK K N [] L' W') → WC (some l) P (Exit.then K (fun _ _ _ => False)) N [] assign ((p, enc x) :: L) W)
    (hbody : ∀ (l : Nat) (x : γ) (d : δ) (W : World), Y' x d W → WC (some l) P (postY w.heap.size (Z x) W) N [] body (La x d) W)
    (hdone : ∀ (D : Nat) (W : World), w.heap.size ≤ D → E W → W.heap[D]? = some (.deferred (some [])) → QK (Q .normal) N (mark D :: ds) L W) :
    WC none P Q N ds (.rangeFunc go #[p] assign body) L w := by
  refine ⟨fun a ha => ?_⟩
  refine wpIn_rangeFunc (F := Fence.wide) (n := 3) fun fn hfn => ?_
  let rec_ : LoopState → Loop := fun st => { state := st, pending := none, fn, tmps := a.tmps, params := #[p], assign, body, defers := w.heap.size }
  have hsz : ((w.alloc (.deferred (some []))).alloc (.loop (rec_ .ready))).heap.size = w.heap.size + 2 := by simp
  have hD1 : ((w.alloc (.deferred (some []))).alloc (.loop (rec_ .ready))).heap[w.heap.size]? = some (.deferred (some [])) :=
    ((Upd.alloc (w.alloc (.deferred (some []))) (.loop (rec_ .ready))).block _ (by simp) id).trans (World.alloc_heap_new w _)
  have hL1 : ((w.alloc (.deferred (some []))).alloc (.loop (rec_ .ready))).heap[w.heap.size + 1]? = some (.loop (rec_ .ready)) := by
    have := World.alloc_heap_new (w.alloc (.deferred (some []))) (.loop (rec_ .ready)); rwa [World.size_alloc] at this
  have hE1 : Ext w ((w.alloc (.deferred (some []))).alloc (.loop (rec_ .ready))) := (Upd.alloc _ _).trans (Upd.alloc _ _)
  refine ⟨w.heap.size + 1, [{ target := .collected w.heap.size, args := #[] }], (w.alloc (.deferred (some []))).alloc (.loop (rec_ .ready)), { target := .fn (.func gf) lb.toArray, args := #[.func (.yield (w.heap.size + 1)) #[] #[]] }, (w.alloc (.deferred (some []))).alloc (.loop (rec_ .ready)), gf,
    #[.func (.yield (w.heap.size + 1)) #[] #[]] ++ lb.toArray, (w.alloc (.deferred (some []))).alloc (.loop (rec_ .ready)), ?_, ?_, fun _ _ => trivial, ?_, fun _ => by decide, ?_⟩
  · exact run_enterLoop_outer _ _ _ _ _
  · simp only [resolve, ha.ev hg]
    simp [go_sem]
  · simp [invoke, go_sem, ho.run]
  · have hH : Hands P (w.heap.size + 1) w.heap.size enc Y Z (fun W => W.heap[w.heap.size + 1]? = some (.loop (rec_ .ready)) ∧ W.heap[w.heap.size]? = some (.deferred (some []))) := by
      refine ⟨fun {W W' S} h u h1 h2 => ⟨(u.block _ (lt_of_block h.1) h1).trans h.1, (u.block _ (lt_of_block h.2) h2).trans h.2⟩, fun {W b t cs} h hb => ⟨fun e => ?_, fun e => ?_⟩, ?_⟩
      · subst e; unfold Blk at hb; rw [h.1] at hb; cases hb
      · subst e; unfold Blk at hb; rw [h.2] at hb; cases hb
      rintro x W hy ⟨hl, hd⟩
      have hyl := run_yield (P := P) (args := #[enc x]) hl rfl
      refine ⟨fn, _, assign, body, hyl, roundIn_of_wpIn (F := Fence.wide) (n := 3) hfn ?_⟩
      have hk : Kn N [] ((p, enc x) :: L) { tmps := (#[p].zip #[enc x]).foldl (fun t (p, v) => t.setIfInBounds p v) a.tmps, defers := [] } := by
        have h1 : Kn N [] L { a with defers := [] } := ⟨ha.size, rfl, ha.get⟩
        have h2 := h1.put (enc x) hp
        refine ⟨by simpa [Act.put] using h2.size, rfl, fun k v hv => ?_⟩
        have := h2.get k v hv
        simpa [Act.put] using this
      refine hassign (w.heap.size + 1) x W _ hy (fun δ L' W hs hu hy' => ⟨fun a' ha' => ?_⟩) _ hk
      replace hl := (hu.block _ (lt_of_block hl) (fun h => h)).trans hl
      replace hd := (hu.block _ (lt_of_block hd) (fun h => h)).trans hd
      have hlt := lt_of_block hl
      refine ⟨_, run_beginRound hl rfl, ?_⟩
      have hl2 : (W.putObj (w.heap.size + 1) (.loop { rec_ .ready with state := .busy })).heap[w.heap.size + 1]? = some (.loop { rec_ .ready with state := .busy }) := World.putObj_heap_same hlt
      have hd2 : (W.putObj (w.heap.size + 1) (.loop { rec_ .ready with state := .busy })).heap[w.heap.size]? = some (.deferred (some [])) := (World.putObj_heap_other (by omega)).trans hd
      refine wpIn_mono (hbody (w.heap.size + 1) x δ _ (hYo' _ _ _ _ hy' ⟨_, hl⟩ (Upd.putObj _ _ _)) a' (ha'.sub hs)) ?_
      rintro e a3 W3 hp3
      cases e with
      | normal =>
        obtain ⟨hk3, hz⟩ := hp3
        have hl3 := hk3.same _ _ (by omega) hl2 rfl
        have hd3 := hk3.same _ _ (Nat.le_refl _) hd2 rfl
        exact ⟨_, _, run_endRound none hl3, rfl, hZo _ _ _ hz ⟨_, hl3⟩ (Upd.putObj _ _ _), World.putObj_heap_same (lt_of_block hl3), (World.putObj_heap_other (by omega)).trans hd3⟩
      | ret => exact hp3.elim
      | exit id => exact hp3.elim
      | goto t => exact hp3.elim
      | panic ch => exact hp3.elim
      | outgrown => exact hp3.elim
    have hc := hiter (w.heap.size + 1) w.heap.size _ _ rfl rfl hsz hE1 hH ⟨hL1, hD1⟩
    have e0 : (#[Value.func (.yield (w.heap.size + 1)) #[] #[]] ++ lb.toArray : Array Value) = (Value.func (.yield (w.heap.size + 1)) #[] #[] :: lb).toArray := by simp
    rw [e0]
    refine callsIn_wide.2 (Calls.mono hc ?_)
    rintro e W2 ⟨v, rfl, hE, hl, hd⟩
    refine ⟨none, _, run_endLoop hl (by simp [rec_]), ?_⟩
    refine hdone w.heap.size _ (Nat.le_refl _) (hEo () _ _ hE ⟨_, hl⟩ (Upd.putObj _ _ _)) ((World.putObj_heap_other (by omega)).trans hd) _ ⟨ha.size, ?_, ha.get⟩
    simp [ha.defers, mark]
end
end Go.Proofs.YtclinbbghnebaaaGreat
namespace Go.Proofs.YtclinbbghnebaaaGreat
open Go Go.RowKit
theorem made_flat {α : Type} [Inhabited α] {enc : α → List Value} {k : Nat} (hk0 : 0 < k) (hk : ∀ x, (enc x).length = k) (x0 : α) (n : Nat) : madeCells (enc x0).toArray (n * k) = ((List.replicate n x0).flatMap enc).toArray := by
  apply Array.ext
  · have := flatMap_len hk (List.replicate n x0)
    simp only [List.size_toArray, this, List.length_replicate]; simp [madeCells]
  · intro i h1 h2
    have hi : i < n * k := by simpa [madeCells] using h1
    have hq : i / k < n := (Nat.div_lt_iff_lt_mul hk0).2 hi
    have hm : i % k < k := Nat.mod_lt _ hk0
    have hlt : i % k < (enc x0).length := by rw [hk]; exact hm
    have h3 := flatMap_at hk (List.replicate n x0) (i / k) (i % k) ((enc x0)[i % k]) (by simpa using hq) (by
      rw [show nth (List.replicate n x0) (i / k) = x0 by simp [nth, List.getD_eq_getElem?_getD, hq]]
      exact List.getElem?_eq_getElem hlt)
    rw [show i / k * k + i % k = i from Nat.div_add_mod' i k] at h3
    have h4 : (madeCells (enc x0).toArray (n * k))[i] = (enc x0)[i % k] := by
      simp only [madeCells, Array.getElem_map, Array.getElem_range, List.size_toArray, hk]
      rw [getElem!_pos _ _ (by rw [List.size_toArray]; exact hlt)]
      simp
    rw [h4]
    have h5 : ((List.replicate n x0).flatMap enc)[i]'(by simpa using h2) = (enc x0)[i % k] := by
      rw [List.getElem_eq_iff]; exact h3
    simpa using h5.symm
section
variable {rd : Option Nat} {P : Program} {ops : Array Oper} {Q : Exit → Act → World → Prop} {N : Nat} {ds : List Deferred} {rest : List Oper} {L : Slots} {w : World}
variable {d : Nat} {ty : TypeId} {pos : String} {aft : Array Edge} {g : Option (Nat × Bool)}
/-- make([]E, n). -/
theorem t_makeN {α : Type} [Inhabited α] {enc : α → List Value} {k : Nat} {t e : TypeId} {x y : Operand} {n bytes : Nat} {m : Int} {z : Value} (x0 : α) (hu : P.underlying t = some (.slice e)) (hi : (P.info? e).map (fun i => (i.zero, i.size, i.bytes)) = some (some z, k, bytes)) (hz : z.cells = (enc x0).toArray) (hk0 : 0 < k) (hk : ∀ x, (enc x).length = k) (hb : bytes ≤ 1000)
    (hg : grd ops L g = true) (hN : Nat.blt d N = true) (hx : ev L x = some (.int .i64 m)) (hy : ev L y = some (.int .i64 m)) (em : m = (n : Int)) (hn : n ≤ 1000000)
    (h : ∀ b w', b = w.heap.size → w'.heap.size = w.heap.size + 1 → Acc enc k e b w' (some ⟨b, 0, none⟩) b n (List.replicate n x0) → Ext w w' → WL rd P ops Q N ds rest ((d, .slice (some ⟨b, 0, none⟩) n n) :: L) w') :
    WL rd P ops Q N ds (⟨some d, .makeSlice t x y, ty, pos, aft, g⟩ :: rest) L w := by
  subst em
  obtain ⟨i, hi0, hi1, hi2, hi3⟩ := info_parts' hi
  have hbn : (bytes : Int) * (n : Int) ≤ 1000 * 1000000 := by
    have := Nat.mul_le_mul hb hn
    have h2 : ((bytes * n : Nat) : Int) ≤ ((1000 * 1000000 : Nat) : Int) := by omega
    rw [Int.natCast_mul] at h2
    omega
  have hr := run_make (P := P) w t e i z hu hi0 hi1 .i64 .i64 (n : Int) (n : Int) (by omega) (Int.le_refl _) (by rw [hi3]; omega) (by omega)
  rw [hi2, Int.toNat_natCast, hz, made_flat hk0 hk x0 n] at hr
  have hB := Blk.new w e ((List.replicate n x0).flatMap enc)
  have hA := Acc.ofBlk enc k hk hB (Nat.le_refl _) (by simpa using hn)
  rw [List.length_replicate] at hA
  exact WL.value (w' := w.alloc (.cells ((List.replicate n x0).flatMap enc).toArray e)) hg rfl hN (fun a hk => by simp [execOp, hk.ev hx, hk.ev hy, hr]) (h _ _ rfl (by simp) hA (Upd.alloc _ _))
end
end Go.Proofs.YtclinbbghnebaaaGreat
namespace Go.Proofs.YtclinbbghnebaaaGreat
open Go Go.RowKit

/-- Of what lay in w only the marks' blocks may read otherwise. -/
abbrev OffMarks (ds : List Deferred) (w w' : World) : Prop := Upd (fun i => ∃ d ∈ ds, d = mark i) w w'
theorem leavesInM_marksC {P : Program} {fn : Func} {tmps : Array Value} {R : Value → World → Prop} {base : Nat} {v : Value} : ∀ (ds : List Deferred) (w : World), (∀ w', OffMarks ds w w' → (results fn tmps).run P w' = .ok v w') → Marks base ds w → (∀ w', Upd (fun i => base ≤ i) w w' → OffMarks ds w w' → R v w') →
    LeavesInM (rnd none) 3 P fn tmps (fun e w' => ∃ v, e = .returned v ∧ R v w') ds .returning w
  | [], w, hr, _, hR => ⟨v, hr w (Upd.refl _ _), v, rfl, hR w (Upd.refl _ _) (Upd.refl _ _)⟩
  | d :: ds, w, hr, h, hR => by
    obtain ⟨⟨D, rfl, h2, h3, h4⟩, h5⟩ := h
    refine ⟨by simp, .inl ⟨D, _, rfl, run_takeDeferred h3, ?_⟩⟩
    have u := Upd.putObj w D (.deferred none)
    have hm : Marks base ds (w.putObj D (.deferred none)) := h5.keepLow u h4 (fun k hk => by omega)
    have uo : ∀ {w'}, OffMarks ds (w.putObj D (.deferred none)) w' → OffMarks (mark D :: ds) w w' := fun {w'} h => (u.mono (fun k hk => ⟨mark D, by simp, by subst hk; rfl⟩)).trans (h.mono (fun k ⟨d, h1, h2⟩ => ⟨d, by simp [h1], h2⟩))
    exact leavesInM_marksC ds _ (fun w' h => hr w' (uo h)) hm (fun w' u' h => hR w' ((u.mono (fun k hk => by omega)).trans u') (uo h))
theorem Marks.notCells {base : Nat} {b : Nat} {c : Array Value} {t : TypeId} {f : Nat × Nat} : ∀ {ds : List Deferred} {w : World}, Marks base ds w → w.heap[b]? = some (.cells c t f) → ¬ ∃ d ∈ ds, d = mark b
  | [], _, _, _, h => by obtain ⟨_, h, _⟩ := h; cases h
  | d :: ds, w, h, hb, hq => by
    obtain ⟨⟨D, h1, h2, h3, h4⟩, h5⟩ := h
    obtain ⟨d', hd, e⟩ := hq
    rcases List.mem_cons.1 hd with rfl | hd
    · rw [h1] at e
      injection e with e
      injection e with e
      subst e
      rw [h3] at hb
      cases hb
    · exact h5.notCells hb ⟨d', hd, e⟩
theorem Marks.notBlk {base : Nat} {b : Nat} {t : TypeId} {cs : List Value} {ds : List Deferred} {w : World} (h : Marks base ds w) (hb : Blk w b t cs) : ¬ ∃ d ∈ ds, d = mark b := h.notCells hb
theorem Marks.notAcc {α : Type} {enc : α → List Value} {k : Nat} {e : TypeId} {base base' : Nat} {ds : List Deferred} {w : World} {ao : Option Addr} {g cap : Nat} {xs : List α} (h : Marks base ds w) (ha : Acc enc k e base' w ao g cap xs) (hp : 0 < xs.length) : ¬ ∃ d ∈ ds, d = mark g := by
  rcases ha.at_ with ⟨_, h1, _⟩ | ⟨_, _, cur, h3, _⟩
  · subst h1; simp at hp
  · exact h.notCells h3
theorem Marks.notSl {α : Type} [Inhabited α] {enc : α → List Value} {k base : Nat} (hk : ∀ x, 0 < (enc x).length) {ds : List Deferred} {w : World} {ao : Option Addr} {b o : Nat} {xs : List α} (h : Marks base ds w) (hs : Sl enc k w ao b o xs) (hp : 0 < xs.length) : ¬ ∃ d ∈ ds, d = mark b := by
  have h1 := hs.at_ 0 hp 0 _ (List.getElem?_eq_getElem (hk _))
  unfold World.cell? at h1
  split at h1
  · rename_i c t f hc; exact h.notCells hc
  · cases h1
/-- A result, read behind the marks. -/
def ResM (P : Program) (ds : List Deferred) (w : World) (L : Slots) (r : ResultVar) (v : Value) : Prop := ∀ w', OffMarks ds w w' → Res P w' L r v
theorem ResM.tmp {P : Program} {ds : List Deferred} {w : World} {L : Slots} {t : Nat} {v : Value} (h : look t L = some v) : ResM P ds w L (.tmp t) v := fun _ _ => h
theorem ResM.cell {P : Program} {ds : List Deferred} {w : World} {L : Slots} {s t b off base : Nat} {t' : TypeId} {cs : List Value} {v : Value} (hm : Marks base ds w) (hl : look s L = some (.pointer (some ⟨b, off, none⟩))) (ha : ∀ w, (isAgg t).run P w = .ok false w) (hb : Blk w b t' cs) (hv : cs[off]? = some v) : ResM P ds w L (.cell s t) v :=
  fun _w' u => ⟨b, off, hl, run_loadVar1 ha ((hb.keep u (hm.notBlk hb)).get hv)⟩

section steps
variable {P : Program} {N : Nat} {ds : List Deferred} {L : Slots} {w : World}
theorem f_retMc1 {R : Value → World → Prop} {fn : Func} {r1 : ResultVar} {v : Value} {base : Nat} (hf : fn.results = #[r1]) (h1 : ResM P ds w L r1 v) (hm : Marks base ds w) (hR : ∀ w', Upd (fun i => base ≤ i) w w' → OffMarks ds w w' → R v w') :
    QK (bodyPostM (rnd none) 3 P fn (fun e w' => ∃ v, e = .returned v ∧ R v w') .ret) N ds L w := by
  refine ⟨fun a ha => ?_⟩
  show LeavesInM (rnd none) 3 P fn a.tmps _ a.defers .returning w
  rw [ha.defers]
  refine leavesInM_marksC ds w (fun w' u => ?_) hm hR
  have e1 := Res.run (h1 w' u) ha
  rw [results_of, hf]
  simp [e1]
theorem f_retMc3 {R : Value → World → Prop} {fn : Func} {r1 r2 r3 : ResultVar} {v1 v2 v3 : Value} {base : Nat} (hf : fn.results = #[r1, r2, r3]) (h1 : ResM P ds w L r1 v1) (h2 : ResM P ds w L r2 v2) (h3 : ResM P ds w L r3 v3) (hm : Marks base ds w) (hR : ∀ w', Upd (fun i => base ≤ i) w w' → OffMarks ds w w' → R (.tuple #[v1, v2, v3]) w') :
    QK (bodyPostM (rnd none) 3 P fn (fun e w' => ∃ v, e = .returned v ∧ R v w') .ret) N ds L w := by
  refine ⟨fun a ha => ?_⟩
  show LeavesInM (rnd none) 3 P fn a.tmps _ a.defers .returning w
  rw [ha.defers]
  refine leavesInM_marksC ds w (fun w' u => ?_) hm hR
  have e1 := Res.run (h1 w' u) ha
  have e2 := Res.run (h2 w' u) ha
  have e3 := Res.run (h3 w' u) ha
  rw [results_of, hf]
  simp [e1, e2, e3]
end steps
end Go.Proofs.YtclinbbghnebaaaGreat
