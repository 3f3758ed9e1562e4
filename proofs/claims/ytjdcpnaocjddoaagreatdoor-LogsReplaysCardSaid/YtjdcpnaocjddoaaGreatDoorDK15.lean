/-
  Part 15 of the proof: contracts and plain laws. Conditions: none.
-/
import Derived.Test.YtjdcpnaocjddoaaGreatDoorRows
import Derived.Handed
import Derived.LaidLaws
import Derived.Lib.LaidTab
import Derived.Test.YtjdcpnaocjddoaaGreatDoorDK14
namespace Go.Proofs.YtjdcpnaocjddoaaGreatDoor
open Go Go.RowKit Go.Proofs.Tryz
theorem RIn.keep37 {base b c : Nat} {w w' : World} {V : SG} {cb cc : List Value} (h : RIn base w V) (hb : Blk w b 37 cb) (hc : Blk w c 37 cc) (u : Upd (fun i => i = b ∨ i = c) w w') : RIn base w' V :=
  ⟨h.ha.keep u (fun hq hs => hs.elim (h.ha.neB hb (by decide) hq) (h.ha.neB hc (by decide) hq)), fun r hr => ⟨(h.ca r hr).1, (h.ca r hr).2.keep u (fun hq hs => hs.elim ((h.ca r hr).2.neB hb (by decide) hq) ((h.ca r hr).2.neB hc (by decide) hq))⟩, h.la.keep u (fun hq hs => hs.elim (h.la.neB hb (by decide) hq) (h.la.neB hc (by decide) hq)), h.ua.keep u (fun hq hs => hs.elim (h.ua.neB hb (by decide) hq) (h.ua.neB hc (by decide) hq))⟩

theorem RIn.low {base : Nat} {w w' : World} {V : SG} {S : Nat → Prop} (h : RIn base w V) (u : Upd S w w') (hS : ∀ i, S i → i < base) : RIn base w' V :=
  ⟨h.ha.keep u (fun hb hs => by have := hS _ hs; omega), fun r hr => ⟨(h.ca r hr).1, (h.ca r hr).2.keep u (fun hb hs => by have := hS _ hs; omega)⟩, h.la.keep u (fun hb hs => by have := hS _ hs; omega), h.ua.keep u (fun hb hs => by have := hS _ hs; omega)⟩

set_option maxHeartbeats 4000000 in
theorem rReplay_c (l : List Ent) (al : Option Addr) (bl ol cl : Nat) (V : SG) (T : Int) (w0 : World) (hl : Sl encEnt 6 w0 al bl ol l) (hll : l.length ≤ 1000000000) (hpos : 0 < w0.heap.size) (hI : SIn w0 V 0 0 0) (hok : SeaOk T V.st) (hT : T ≤ 200000000) :
    CallsV Tryz.prog 21 [.agg #[.int .i64 V.m, .slice V.ah V.rs.length V.ch, .slice V.al V.ld.length V.cl, .slice V.au V.un.length V.cu, .int .i64 V.wk], .slice al l.length cl] w0 (fun v w' => (∃ V9 : SG, v = .tuple #[.agg #[.int .i64 V9.m, .slice V9.ah V9.rs.length V9.ch, .slice V9.al V9.ld.length V9.cl, .slice V9.au V9.un.length V9.cu, .int .i64 V9.wk], .int .i64 ((repP V.st l).2.1 : Int), .int .i64 (repP V.st l).1] ∧ SIn w' V9 0 0 0 ∧ V9.st = (repP V.st l).2.2) ∧ Ext w0 w') := by
 have hT0 := hok.t
 refine f_n func21 ?_
 refine go ?_
 refine x_b fun bk2 w3 ebk2 sbk2 B4 u5 => ?_
 refine x_n fun bk7 w8 ebk7 sbk7 B9 u10 => ?_
 have E11 := Sc.mk (((Upd.refl (fun _ => False) w0).nx u5).nx u10)
 refine go ?_
 refine q_p (fun g12 => ?_) fun g12 => ?_
 ·
  refine go ?_
  refine x_s fun w15 sw15 B17 u16 => ?_
  refine go ?_
  refine f_ret3 (v1 := .agg #[.int .i64 0, .slice none 0 0, .slice none 0 0, .slice none 0 0, .int .i64 0]) (v2 := .int .i64 0) (v3 := .int .i64 5) results21 ⟨_, _, rfl, run_loadVarN (vs := [.int .i64 0, .slice none 0 0, .slice none 0 0, .slice none 0 0, .int .i64 0]) isAgg37 sizeOf37 rfl (B17.at.sub 0 5)⟩ rfl rfl ?_
  have he : repP V.st l = (5, 0, zSea) := by unfold repP; rw [if_pos (by omega)]
  rw [he]
  exact ⟨⟨SG0, rfl, (SIn.zero (by omega)), rfl⟩, u_d⟩
 refine go ?_
 refine x_c func58 rfl rfl (rCopy_c V 0 0 0 _ (hI.ext E11.u) (by omega) hok.rlen hok.ld.len hok.un.len (fun r hr => (hok.rhul r hr).2.2.1.len)) ?_
 rintro _ w21 ⟨⟨V1, rfl, hM, hst⟩, u22⟩ zu22
 refine x_s fun w25 sw25 B27 u26 => ?_
 refine go ?_
 refine x_l2 (fun i => i = bk2 ∨ w8.heap.size ≤ i) [1, 2, 4] (fun (j : Nat) (Vj : SG) => [(7, .int .i64 (j : Int))]) (fun j Vj w => Blk w bk2 37 [.int .i64 Vj.m, .slice Vj.ah Vj.rs.length Vj.ch, .slice Vj.al Vj.ld.length Vj.cl, .slice Vj.au Vj.un.length Vj.cu, .int .i64 Vj.wk] ∧ (j ≤ l.length) ∧ (RIn w8.heap.size w Vj) ∧ (runP V.st 0 l = runP Vj.st j (l.drop j)) ∧ (SeaOk (T + 100000 * (j : Int)) Vj.st)) (fun j Vj => l.length - j) 0 V1 ⟨B27, (Nat.zero_le _), (hM.low u26 (fun i h => by omega)), (by rw [hst]; rfl), (by rw [hst]; simpa using hok)⟩ ?_
 rintro j Vj w32 ⟨I34, hj, hMj, hrun, hoj⟩ u33 zu33 K31 hK31
 have lgh := hMj.ha.lt
 refine go ?_
 refine q_p (fun g19 => ?_) fun g19 => ?_
 ·
  have hblt := hl.lt (by omega)
  refine go ?_
  refine c_drawnM follows (fun i => (i = Vj.gh ∧ w8.heap.size ≤ i)) (.look 0 (.look 1 (.look 2 (.look 3 (.look 4 (.act 5 (.look 6 (.look 7 (.look 8 (.act 9 (.act 10 (.look 11 .done) .stop) .stop)))) (.act 9 (.act 5 (.look 6 (.look 7 (.look 8 (.act 10 (.look 11 .done) .stop)))) .stop) .stop))))))) (by kernel_rfl) fun w40 u41 => ?_
  have zu41 := u41.size
  refine go ?_
  refine y_i j (hl.keep ((((E11.u.nx u22).next u26 (fun i hi h => by omega)).next u33 (fun i hi h => by omega)).nx u41) (fun _ h => h)) (fun _ => ?_)
  refine go ?_
  refine s_or ?_ ?_
  ·
   refine go ?_
   refine x_c func59 rfl rfl (rStep_c w8.heap.size Vj (T + 100000 * j) (nth l j) _ (hMj.ext ((Upd.refl (fun _ => False) _).nx u41)) hoj (by omega) (by omega) (by omega)) ?_
   rintro _ w46 ⟨⟨S44, rfl, hMS44, hstS44⟩, u47⟩ zu47
   have B50 := ((I34.kx u41).keep u47 (by omega))
   refine go ?_
   refine x_n fun bk51 w52 ebk51 sbk51 B53 u54 => ?_
   refine go ?_
   refine x_s fun w56 sw56 B58 u57 => ?_
   refine go ?_
   refine q_p (fun g32 => ?_) fun g32 => ?_
   ·
    refine go ?_
    refine x_s fun w63 sw63 B65 u64 => ?_
    refine go ?_
    refine f_ret3 (v1 := .agg #[.int .i64 0, .slice none 0 0, .slice none 0 0, .slice none 0 0, .int .i64 0]) (v2 := .int .i64 (j : Int)) (v3 := .int .i64 ((stepP Vj.st (nth l j)).1)) results21 ⟨_, _, rfl, run_loadVarN (vs := [.int .i64 0, .slice none 0 0, .slice none 0 0, .slice none 0 0, .int .i64 0]) isAgg37 sizeOf37 rfl (B65.at.sub 0 5)⟩ rfl rfl ?_
    have hl9 : ¬ 2000 < l.length := by omega
    have hR : runP V.st 0 l = ((stepP Vj.st (nth l j)).1, j, Vj.st) := by rw [hrun, drop_nth (by omega)]; unfold runP; rw [if_neg (by omega)]
    have he : repP V.st l = ((stepP Vj.st (nth l j)).1, j, zSea) := by unfold repP; rw [if_neg hl9, hR, if_neg (by show ¬ (stepP Vj.st (nth l j)).1 = 0; omega)]
    rw [he]
    exact ⟨⟨SG0, rfl, (SIn.zero (by omega)), rfl⟩, u_d⟩
   refine go ?_
   refine x_s fun w67 sw67 B69 u68 => ?_
   refine go ?_
   exact hK31 (j + 1) S44 ⟨B69, (by omega), (hMS44.keep37 B50 B50 ((((Upd.refl (fun i => i = bk2 ∨ i = bk2) _).nx u54).next u57 (fun i hi h => by omega)).next u68 (fun i hi h => by omega))), (by rw [hrun, drop_nth (by omega), runP_ok (by omega), hstS44 (by omega)]), (by have h9 := SeaOk.step hoj (by omega) (show (stepP Vj.st (nth l j)).1 = 0 by omega); rw [← hstS44 (by omega)] at h9; rwa [show T + 100000 * ((j + 1 : Nat) : Int) = T + 100000 * (j : Int) + 100000 by omega])⟩
  refine go ?_
  refine x_n fun bk71 w72 ebk71 sbk71 B73 u74 => ?_
  refine go ?_
  refine x_c func59 rfl rfl (rStep_c w8.heap.size Vj (T + 100000 * j) (nth l j) _ (hMj.ext (((Upd.refl (fun _ => False) _).nx u41).nx u74)) hoj (by omega) (by omega) (by omega)) ?_
  rintro _ w78 ⟨⟨S76, rfl, hMS76, hstS76⟩, u79⟩ zu79
  have B82 := (((I34.kx u41).kx u74).keep u79 (by omega))
  have B83 := (B73.keep u79 (by omega))
  refine go ?_
  refine x_s fun w84 sw84 B86 u85 => ?_
  refine go ?_
  refine q_p (fun g32 => ?_) fun g32 => ?_
  ·
   refine go ?_
   refine x_s fun w91 sw91 B93 u92 => ?_
   refine go ?_
   refine f_ret3 (v1 := .agg #[.int .i64 0, .slice none 0 0, .slice none 0 0, .slice none 0 0, .int .i64 0]) (v2 := .int .i64 (j : Int)) (v3 := .int .i64 ((stepP Vj.st (nth l j)).1)) results21 ⟨_, _, rfl, run_loadVarN (vs := [.int .i64 0, .slice none 0 0, .slice none 0 0, .slice none 0 0, .int .i64 0]) isAgg37 sizeOf37 rfl (B93.at.sub 0 5)⟩ rfl rfl ?_
   have hl9 : ¬ 2000 < l.length := by omega
   have hR : runP V.st 0 l = ((stepP Vj.st (nth l j)).1, j, Vj.st) := by rw [hrun, drop_nth (by omega)]; unfold runP; rw [if_neg (by omega)]
   have he : repP V.st l = ((stepP Vj.st (nth l j)).1, j, zSea) := by unfold repP; rw [if_neg hl9, hR, if_neg (by show ¬ (stepP Vj.st (nth l j)).1 = 0; omega)]
   rw [he]
   exact ⟨⟨SG0, rfl, (SIn.zero (by omega)), rfl⟩, u_d⟩
  refine go ?_
  refine x_s fun w95 sw95 B97 u96 => ?_
  refine go ?_
  exact hK31 (j + 1) S76 ⟨B97, (by omega), (hMS76.keep37 B82 B83 (((Upd.refl (fun i => i = bk2 ∨ i = bk71) _).next u85 (fun i hi h => by omega)).next u96 (fun i hi h => by omega))), (by rw [hrun, drop_nth (by omega), runP_ok (by omega), hstS76 (by omega)]), (by have h9 := SeaOk.step hoj (by omega) (show (stepP Vj.st (nth l j)).1 = 0 by omega); rw [← hstS76 (by omega)] at h9; rwa [show T + 100000 * ((j + 1 : Nat) : Int) = T + 100000 * (j : Int) + 100000 by omega])⟩
 refine go ?_
 refine x_s fun w100 sw100 B102 u101 => ?_
 refine go ?_
 refine f_ret3 (v1 := .agg #[.int .i64 Vj.m, .slice Vj.ah Vj.rs.length Vj.ch, .slice Vj.al Vj.ld.length Vj.cl, .slice Vj.au Vj.un.length Vj.cu, .int .i64 Vj.wk]) (v2 := .int .i64 0) (v3 := .int .i64 0) results21 ⟨_, _, rfl, run_loadVarN (vs := [.int .i64 Vj.m, .slice Vj.ah Vj.rs.length Vj.ch, .slice Vj.al Vj.ld.length Vj.cl, .slice Vj.au Vj.un.length Vj.cu, .int .i64 Vj.wk]) isAgg37 sizeOf37 rfl (B102.at.sub 0 5)⟩ rfl rfl ?_
 have hl9 : ¬ 2000 < l.length := by omega
 have hR : runP V.st 0 l = (0, 0, Vj.st) := by rw [hrun, List.drop_of_length_le (by omega)]; rfl
 have he : repP V.st l = (0, 0, Vj.st) := by unfold repP; rw [if_neg hl9, hR, if_pos rfl]
 rw [he]
 exact ⟨⟨Vj, rfl, ((hMj.low u101 (fun i h => by omega))).sin, rfl⟩, u_d⟩

end Go.Proofs.YtjdcpnaocjddoaaGreatDoor
namespace Go.Proofs.YtjdcpnaocjddoaaGreatDoor
open Go Go.RowKit Go.Proofs.Tryz
theorem rcargo_c (a b : List Crg) (aa : Option Addr) (ba oa ca : Nat) (ab : Option Addr) (bb ob cb : Nat) (w0 : World) (ha : Sl encCrg 2 w0 aa ba oa a) (hb : Sl encCrg 2 w0 ab bb ob b) (hal : a.length ≤ 1000000) :
    CallsV Tryz.prog 60 [.slice aa a.length ca, .slice ab b.length cb] w0 (fun v w' => v = .bool (decide (a = b)) ∧ Ext w0 w') := by
 refine f_n func60 ?_
 refine go ?_
 refine q_p (fun g10 => ?_) fun g10 => ?_
 ·
  refine go ?_
  refine f_1 results60 ?_
  exact ⟨congrArg Value.bool (decide_eq_false (fun e => g10 (by rw [e]))).symm, u_d⟩
 refine go ?_
 refine x_l1 (fun _ => False) [0, 1] (fun (j : Nat) => [(5, .int .i64 (j : Int))]) (fun j w => (j ≤ a.length) ∧ (a.take j = b.take j)) (fun j => a.length - j) 0 ⟨(Nat.zero_le _), rfl⟩ ?_
 rintro j w8 ⟨hj, he⟩ u9 zu9 K7 hK7
 refine go ?_
 refine q_p (fun g14 => ?_) fun g14 => ?_
 ·
  refine go ?_
  refine c_drawnM follows (fun _ => False) (OTl [0, 2, 4, 6, 8, 10, 12, 14, 16]) (by kernel_rfl) fun w15 u16 => ?_
  have zu16 := u16.size
  have E17 := Sc.mk (((Upd.refl (fun _ => False) w0).nx u9).nx u16)
  refine go ?_
  refine y_i j (ha.keep E17.u (fun _ h => h)) (fun _ => ?_)
  refine go ?_
  refine y_i j (hb.keep E17.u (fun _ h => h)) (fun _ => ?_)
  refine go ?_
  refine y_neS (xs := [.int .i64 ((nth a j).b), .int .i64 ((nth a j).t)]) (ys := [.int .i64 ((nth b j).b), .int .i64 ((nth b j).t)]) (by kernel_rfl) (eqIn48 9998 ((nth a j).b) ((nth a j).t) ((nth b j).b) ((nth b j).t)) rfl rfl rfl rfl ?_
  refine go ?_
  refine q_b (fun g25 => ?_) fun g25 => ?_
  ·
   have hq : ¬ (nth a j = nth b j) := by
     cases ha : nth a j; cases hb : nth b j
     simp [ha, hb] at g25 ⊢
     omega
   refine go ?_
   refine f_1 results60 ?_
   exact ⟨congrArg Value.bool (decide_eq_false (nth_take_ne hq)).symm, u_d⟩
  have hq : (nth a j = nth b j) := by
    cases ha : nth a j; cases hb : nth b j
    simp [ha, hb] at g25 ⊢
    omega
  refine go ?_
  exact hK7 (j + 1) ⟨(by omega), (take_eq he (by omega) (by omega) hq)⟩
 refine go ?_
 refine f_1 results60 ?_
 have hab : a = b := by
   rw [List.take_of_length_le (by omega), List.take_of_length_le (by omega)] at he
   exact he
 exact ⟨congrArg Value.bool (decide_eq_true hab).symm, u_d⟩

set_option maxHeartbeats 4000000 in
theorem requal_c (V U : SG) (o1V o2V o3V o1U o2U o3U : Nat) (w0 : World) (hV : SIn w0 V o1V o2V o3V) (hU : SIn w0 U o1U o2U o3U) (heq : V.st = U.st) (hl1 : V.ld.length ≤ 9999) (hl2 : V.un.length ≤ 9999) (hl3 : V.rs.length ≤ 999) (hcl : ∀ r ∈ V.rs, r.c.length ≤ 9999) :
    CallsV Tryz.prog 22 [.agg #[.int .i64 V.m, .slice V.ah V.rs.length V.ch, .slice V.al V.ld.length V.cl, .slice V.au V.un.length V.cu, .int .i64 V.wk], .agg #[.int .i64 U.m, .slice U.ah U.rs.length U.ch, .slice U.al U.ld.length U.cl, .slice U.au U.un.length U.cu, .int .i64 U.wk]] w0 (fun v w' => v = .bool true ∧ Ext w0 w') := by
 obtain ⟨e0, e1, e2, e3, e4, e5⟩ := st_eq heq
 refine f_n func22 ?_
 refine go ?_
 refine x_b fun bk2 w3 ebk2 sbk2 B4 u5 => ?_
 refine x_b fun bk7 w8 ebk7 sbk7 B9 u10 => ?_
 have E11 := Sc.mk (((Upd.refl (fun _ => False) w0).nx u5).nx u10)
 refine go ?_
 refine t_splitp 11 rfl (fun g11 => ?_) (fun g11 => ?_)
 ·
  refine go ?_
  refine f_1 results22 ?_
  exact (by omega : False).elim
 refine go ?_
 refine t_splitp 18 rfl (fun g18 => ?_) (fun g18 => ?_)
 ·
  refine go ?_
  refine f_1 results22 ?_
  exact (by omega : False).elim
 refine go ?_
 refine t_splitp 27 rfl (fun g27 => ?_) (fun g27 => ?_)
 ·
  refine go ?_
  refine f_1 results22 ?_
  exact (by omega : False).elim
 refine go ?_
 refine x_c func60 rfl rfl (rcargo_c V.ld U.ld V.al V.gl o2V V.cl U.al U.gl o2U U.cl _ (hV.ls.keep E11.u (fun _ h => h)) (hU.ls.keep E11.u (fun _ h => h)) (by omega)) ?_
 rintro _ w18 ⟨rfl, u19⟩ zu19
 have E21 := Sc.mk (E11.u.nx u19)
 refine t_same 32 (v := .bool true) rfl (congrArg Value.bool (decide_eq_true e3)) ?_
 refine go ?_
 refine x_c func60 rfl rfl (rcargo_c V.un U.un V.au V.gu o3V V.cu U.au U.gu o3U U.cu _ (hV.us.keep E21.u (fun _ h => h)) (hU.us.keep E21.u (fun _ h => h)) (by omega)) ?_
 rintro _ w23 ⟨rfl, u24⟩ zu24
 refine t_same 40 (v := .bool true) rfl (congrArg Value.bool (decide_eq_true e4)) ?_
 refine go ?_
 refine x_l1 (fun _ => False) [2, 3] (fun (j : Nat) => [(5, .int .i64 (j : Int))]) (fun j w => (j ≤ V.rs.length)) (fun j => V.rs.length - j) 0 (Nat.zero_le _) ?_
 rintro j w30 hj u31 zu31 K29 hK29
 refine go ?_
 refine q_p (fun g47 => ?_) fun g47 => ?_
 ·
  obtain ⟨e6, e7, e8⟩ := e5 j (by omega)
  refine go ?_
  refine c_drawnM follows (fun _ => False) (OTl [0, 2, 4, 6, 8, 10, 12, 14, 16, 18, 20, 22, 24, 26, 28, 30, 32, 34, 36, 38, 40, 42, 44, 46, 48, 50, 52, 54, 56, 58, 60, 62, 64, 66, 68, 70, 72, 74, 76, 78, 80, 83, 84, 86]) (by kernel_rfl) fun w37 u38 => ?_
  have zu38 := u38.size
  have E39 := Sc.mk (((E21.u.nx u24).nx u31).nx u38)
  refine go ?_
  refine y_i j (hV.hs.keep E39.u (fun _ h => h)) (fun _ => ?_)
  refine go ?_
  refine y_i j (hU.hs.keep E39.u (fun _ h => h)) (fun _ => ?_)
  refine go ?_
  refine y_splitp 63 rfl (fun g63 => ?_) (fun g63 => ?_)
  ·
   refine go ?_
   refine f_1 results22 ?_
   exact (by omega : False).elim
  refine go ?_
  refine y_i j (hV.hs.keep E39.u (fun _ h => h)) (fun _ => ?_)
  refine go ?_
  refine y_i j (hU.hs.keep E39.u (fun _ h => h)) (fun _ => ?_)
  refine go ?_
  refine y_splitp 78 rfl (fun g78 => ?_) (fun g78 => ?_)
  ·
   refine go ?_
   refine f_1 results22 ?_
   exact (by omega : False).elim
  refine go ?_
  refine y_i j (hV.hs.keep E39.u (fun _ h => h)) (fun _ => ?_)
  refine go ?_
  refine y_i j (hU.hs.keep E39.u (fun _ h => h)) (fun _ => ?_)
  refine go ?_
  refine x_c func60 rfl rfl (rcargo_c ((nth V.rs j).c) ((nth U.rs j).c) ((nth V.rs j).ao) (nth V.rs j).g ((nth V.rs j).o) ((nth V.rs j).cp) ((nth U.rs j).ao) (nth U.rs j).g ((nth U.rs j).o) ((nth U.rs j).cp) _ ((hV.cs _ (nth_mem (show j < V.rs.length by omega))).keep E39.u (fun _ h => h)) ((hU.cs _ (nth_mem (show j < U.rs.length by omega))).keep E39.u (fun _ h => h)) (by have := hcl _ (nth_mem (show j < V.rs.length by omega)); omega)) ?_
  rintro _ w49 ⟨rfl, u50⟩ zu50
  refine t_same 91 (v := .bool true) rfl (congrArg Value.bool (decide_eq_true e8)) ?_
  refine go ?_
  exact hK29 (j + 1) (by omega)
 refine go ?_
 refine f_1 results22 ?_
 exact ⟨rfl, u_d⟩

end Go.Proofs.YtjdcpnaocjddoaaGreatDoor
namespace Go.Proofs.YtjdcpnaocjddoaaGreatDoor
open Go Go.RowKit Go.Proofs.Tryz
theorem rRep0_c (l : List Ent) (al : Option Addr) (bl ol cl : Nat) (w0 : World) (hl : Sl encEnt 6 w0 al bl ol l) (hll : l.length ≤ 1000000000) (hpos : 0 < w0.heap.size) :
    CallsV Tryz.prog 21 [.agg #[.int .i64 0, .slice none 0 0, .slice none 0 0, .slice none 0 0, .int .i64 0], .slice al l.length cl] w0 fun v w' => (∃ V9 : SG, v = .tuple #[.agg #[.int .i64 V9.m, .slice V9.ah V9.rs.length V9.ch, .slice V9.al V9.ld.length V9.cl, .slice V9.au V9.un.length V9.cu, .int .i64 V9.wk], .int .i64 ((repP zSea l).2.1 : Int), .int .i64 (repP zSea l).1] ∧ SIn w' V9 0 0 0 ∧ V9.st = (repP zSea l).2.2) ∧ Ext w0 w' :=
  rReplay_c l al bl ol cl SG0 0 w0 hl hll hpos (SIn.zero hpos) seaOk_zero (by decide)
theorem rRep_c (l : List Ent) (al : Option Addr) (bl ol cl : Nat) (V : SG) (T : Int) (w0 : World) (hl : Sl encEnt 6 w0 al bl ol l) (hll : l.length ≤ 1000000000) (hpos : 0 < w0.heap.size) (hI : SIn w0 V 0 0 0) (hok : SeaOk T V.st) (hT : T ≤ 200000000) :
    CallsV Tryz.prog 21 [.agg #[.int .i64 V.m, .slice V.ah V.rs.length V.ch, .slice V.al V.ld.length V.cl, .slice V.au V.un.length V.cu, .int .i64 V.wk], .slice al l.length cl] w0 fun v w' => (∃ V9 : SG, v = .tuple #[.agg #[.int .i64 V9.m, .slice V9.ah V9.rs.length V9.ch, .slice V9.al V9.ld.length V9.cl, .slice V9.au V9.un.length V9.cu, .int .i64 V9.wk], .int .i64 ((repP V.st l).2.1 : Int), .int .i64 (repP V.st l).1] ∧ SIn w' V9 0 0 0 ∧ V9.st = (repP V.st l).2.2) ∧ Ext w0 w' :=
  rReplay_c l al bl ol cl V T w0 hl hll hpos hI hok hT
theorem repP_sea {S : Sea} {l : List Ent} {T T' : Int} (h : SeaOk T S) (_ : l.length ≤ 1000000000) (hT : T + 200000000 ≤ T') (hT' : T' ≤ 1000000000) : SeaOk T' (repP S l).2.2 := by
  have h0 := h.t
  have hz : SeaOk T' zSea := seaOk_zero.mono (by omega) hT'
  unfold repP
  by_cases h1 : 2000 < l.length
  · rw [if_pos h1]; exact hz
  · rw [if_neg h1]
    by_cases h2 : (runP S 0 l).1 = 0
    · rw [if_pos h2]; exact (runP_ok_sea h (by omega) h2).mono (by omega) hT'
    · rw [if_neg h2]; exact hz
theorem SG_small {T : Int} {V : SG} (h : SeaOk T V.st) : V.rs.length ≤ 999 ∧ V.ld.length ≤ 9999 ∧ V.un.length ≤ 9999 ∧ ∀ r ∈ V.rs, r.c.length ≤ 9999 := h.parts

set_option maxHeartbeats 4000000 in
theorem LogsReplays_c (l m : List Ent) (al : Option Addr) (bl ol cl : Nat) (am : Option Addr) (bm om cm : Nat) (w0 : World) (hl : Sl encEnt 6 w0 al bl ol l) (hm : Sl encEnt 6 w0 am bm om m) (hT : Tab10 w0) (hpos : 0 < w0.heap.size) :
    CallsV Tryz.prog 4 [.slice al l.length cl, .slice am m.length cm] w0 (fun v w' => v = .bool true ∧ Ext w0 w') := by
 refine f_n func4 ?_
 iterate 6 refine st1 ?_
 refine x_k1 (fun _ => False) [0, 1] (fun (z9 : Bool) => [(31, .bool z9)]) (fun z9 w => (z9 = decide (((150 < l.length ∧ l.length ≤ 2000) ∨ 2010 < l.length) ∨ 150 < m.length))) (fun K7 hK7 => ?_) ?_
 ·
  refine go ?_
  refine t_splitp 17 rfl (fun g17 => ?_) (fun g17 => ?_)
  ·
   refine go ?_
   refine t_splitp 22 rfl (fun g22 => ?_) (fun g22 => ?_)
   ·
    refine go ?_
    exact hK7 true (by first | exact (decide_eq_false (by omega)).symm | exact (decide_eq_true (by omega)).symm | exact decide_eq_decide.2 (by omega))
   refine go ?_
   refine t_splitp 27 rfl (fun g27 => ?_) (fun g27 => ?_)
   ·
    refine go ?_
    exact hK7 true (by first | exact (decide_eq_false (by omega)).symm | exact (decide_eq_true (by omega)).symm | exact decide_eq_decide.2 (by omega))
   refine go ?_
   exact hK7 (decide (150 < (m.length : Int))) (by first | exact (decide_eq_false (by omega)).symm | exact (decide_eq_true (by omega)).symm | exact decide_eq_decide.2 (by omega))
  refine go ?_
  refine t_splitp 27 rfl (fun g27 => ?_) (fun g27 => ?_)
  ·
   refine go ?_
   exact hK7 true (by first | exact (decide_eq_false (by omega)).symm | exact (decide_eq_true (by omega)).symm | exact decide_eq_decide.2 (by omega))
  refine go ?_
  exact hK7 (decide (150 < (m.length : Int))) (by first | exact (decide_eq_false (by omega)).symm | exact (decide_eq_true (by omega)).symm | exact decide_eq_decide.2 (by omega))
 rintro z9 w8 hz9 u9 zu9
 have E10 := Sc.mk ((Upd.refl (fun _ => False) w0).nx u9)
 refine q_b (fun g31 => ?_) fun g31 => ?_
 ·
  have hzb : (((150 < l.length ∧ l.length ≤ 2000) ∨ 2010 < l.length) ∨ 150 < m.length) := by rw [hz9] at g31; exact of_decide_eq_true g31
  refine go ?_
  refine x_c func13 rfl rfl (known_c _ (hT.ext E10.u) (by omega)) ?_
  rintro _ w13 ⟨rfl, u14⟩ zu14
  refine go ?_
  refine f_1 results4 ?_
  exact ⟨rfl, u_d⟩
 have hzb : ¬ (((150 < l.length ∧ l.length ≤ 2000) ∨ 2010 < l.length) ∨ 150 < m.length) := by rw [hz9] at g31; exact of_decide_eq_false g31
 obtain ⟨S1, hS1⟩ : ∃ S, S = (repP zSea l).2.2 := ⟨_, rfl⟩
 obtain ⟨T1, hT1, hok1⟩ : ∃ T1 : Int, T1 ≤ 200000000 ∧ SeaOk T1 S1 := ⟨200000000, by decide, by rw [hS1]; exact repP_sea seaOk_zero (by omega) (by decide) (by decide)⟩
 have hS1 := hS1.symm
 refine go ?_
 refine x_c func14 rfl rfl (entries_c l al bl ol cl _ (hl.keep E10.u (fun _ h => h)) (by omega) (by omega)) ?_
 rintro _ w20 ⟨⟨ae18, ge18, ce18, rfl, hFe18⟩, u21⟩ zu21
 have lt_ge18 := hFe18.lt
 refine go ?_
 refine x_c func20 rfl rfl (Rep0_c l ae18 ge18 0 ce18 _ (hFe18.sl (fun _ => rfl)) (by omega) (by omega)) ?_
 rintro _ w27 ⟨⟨V25, rfl, hIV25, hstV25, hFV25⟩, u28⟩ zu28
 have hstV259 : V25.st = S1 := by rw [hstV25, hS1]
 refine go ?_
 refine x_n fun bk31 w32 ebk31 sbk31 B33 u34 => ?_
 refine x_s fun w36 sw36 B38 u37 => ?_
 have E39 := Sc.mk ((((E10.u.nx u21).nx u28).nx u34).next u37 (fun i hi h => by omega))
 refine go ?_
 refine x_c func21 rfl rfl (rRep0_c l al bl ol cl _ (hl.keep E39.u (fun _ h => h)) (by omega) (by omega)) ?_
 rintro _ w43 ⟨⟨V41, rfl, hIV41, hstV41⟩, u44⟩ zu44
 have hstV419 : V41.st = S1 := by rw [hstV41, hS1]
 refine go ?_
 refine x_n fun bk47 w48 ebk47 sbk47 B49 u50 => ?_
 refine x_s fun w52 sw52 B54 u53 => ?_
 have E55 := Sc.mk (((E39.u.nx u44).nx u50).next u53 (fun i hi h => by omega))
 refine go ?_
 have D58 := ((((((hFe18.keep u28 (fun _ h => h)).keep u34 (fun _ h => h)).keep u37 (fun hb => show ¬ (ge18 = bk31) by first | omega | assumption)).keep u44 (fun _ h => h)).keep u50 (fun _ h => h)).keep u53 (fun hb => show ¬ (ge18 = bk47) by first | omega | assumption))
 refine x_c func16 rfl rfl (same_c l l ae18 ge18 0 ce18 al bl ol cl _ (D58.sl (fun _ => rfl)) (hl.keep E55.u (fun _ h => h)) (by omega)) ?_
 rintro _ w60 ⟨rfl, u61⟩ zu61
 refine t_same 51 (v := .bool true) rfl (congrArg Value.bool (decide_eq_true (by rfl))) ?_
 iterate 5 refine st1 ?_
 refine t_samehd (v := .bool false) (by simp) ?_
 iterate 5 refine st1 ?_
 refine t_samehd (v := .bool false) (by simp) ?_
 refine go ?_
 obtain ⟨r1V25, r2V25, r3V25, r4V25⟩ := SG_small (V := V25) (by rw [hstV259]; exact hok1)
 refine x_c func22 rfl rfl (requal_c V25 V41 0 0 0 0 0 0 _ (hIV25.keepN hFV25 (((((((Upd.refl (fun i => i < w20.heap.size) _).nx u34).next u37 (fun i hi (h : i = bk31) => show i < w20.heap.size by first | omega | assumption)).nx u44).nx u50).next u53 (fun i hi (h : i = bk47) => show i < w20.heap.size by first | omega | assumption)).nx u61) (fun i h => h)) (hIV41.ext ((((Upd.refl (fun _ => False) _).nx u50).next u53 (fun i hi (h : i = bk47) => show False by first | omega | assumption)).nx u61)) (hstV259.trans hstV419.symm) (by omega) (by omega) (by omega) r4V25) ?_
 rintro _ w65 ⟨rfl, u66⟩ zu66
 have E68 := Sc.mk ((E55.u.nx u61).nx u66)
 refine go ?_
 refine q_p (fun g70 => ?_) fun g70 => ?_
 ·
  refine go ?_
  refine x_c func13 rfl rfl (known_c _ (hT.ext E68.u) (by omega)) ?_
  rintro _ w73 ⟨rfl, u74⟩ zu74
  refine go ?_
  refine f_1 results4 ?_
  exact ⟨rfl, u_d⟩
 have hok2 : SeaOk 400000000 (repP S1 m).2.2 := repP_sea hok1 (by omega) (by omega) (by decide)
 refine go ?_
 refine c_drawnM follows (fun _ => False) (.look 0 (.look 1 (.act 2 (.act 3 (.look 4 (.look 5 (.look 6 (.look 7 (.act 8 (.act 9 (.look 10 (.look 11 .done)) .stop) .stop))))) (.act 8 (.act 3 (.look 4 (.look 5 (.look 6 (.look 7 (.act 9 (.look 10 (.look 11 .done)) .stop))))) .stop) .stop)) (.act 8 (.act 2 (.act 3 (.look 4 (.look 5 (.look 6 (.look 7 (.act 9 (.look 10 (.look 11 .done)) .stop))))) .stop) .stop) .stop)))) (by kernel_rfl) fun w78 u79 => ?_
 have zu79 := u79.size
 have E80 := Sc.mk (E68.u.nx u79)
 refine go ?_
 refine s_or ?_ ?_
 ·
  refine go ?_
  refine x_c func14 rfl rfl (entries_c m am bm om cm _ (hm.keep E80.u (fun _ h => h)) (by omega) (by omega)) ?_
  rintro _ w83 ⟨⟨ae81, ge81, ce81, rfl, hFe81⟩, u84⟩ zu84
  have E86 := Sc.mk (E80.u.nx u84)
  have lt_ge81 := hFe81.lt
  refine go ?_
  refine s_or ?_ ?_
  ·
   refine go ?_
   refine x_c func20 rfl rfl (by have h9 := Rep_c m ae81 ge81 0 ce81 V25 T1 _ (hFe81.sl (fun _ => rfl)) (by omega) (by omega) (hIV25.keepN hFV25 ((((((((((Upd.refl (fun i => i < w20.heap.size) _).nx u34).next u37 (fun i hi (h : i = bk31) => show i < w20.heap.size by first | omega | assumption)).nx u44).nx u50).next u53 (fun i hi (h : i = bk47) => show i < w20.heap.size by first | omega | assumption)).nx u61).nx u66).nx u79).nx u84) (fun i h => h)) (by rw [hstV259]; exact hok1) (by omega); rw [hstV259] at h9; exact h9) ?_
   rintro _ w89 ⟨⟨V87, rfl, hIV87, hstV87, hFV87⟩, u90⟩ zu90
   refine go ?_
   refine x_n fun bk93 w94 ebk93 sbk93 B95 u96 => ?_
   refine go ?_
   refine x_s fun w98 sw98 B100 u99 => ?_
   have E101 := Sc.mk (((E86.u.nx u90).nx u96).next u99 (fun i hi h => by omega))
   refine go ?_
   refine x_c func21 rfl rfl (by have h9 := rRep_c m am bm om cm V41 T1 _ (hm.keep E101.u (fun _ h => h)) (by omega) (by omega) (hIV41.ext ((((((((((Upd.refl (fun _ => False) _).nx u50).next u53 (fun i hi (h : i = bk47) => show False by first | omega | assumption)).nx u61).nx u66).nx u79).nx u84).nx u90).nx u96).next u99 (fun i hi (h : i = bk93) => show False by first | omega | assumption))) (by rw [hstV419]; exact hok1) (by omega); rw [hstV419] at h9; exact h9) ?_
   rintro _ w105 ⟨⟨V103, rfl, hIV103, hstV103⟩, u106⟩ zu106
   refine go ?_
   refine x_n fun bk109 w110 ebk109 sbk109 B111 u112 => ?_
   refine x_s fun w114 sw114 B116 u115 => ?_
   refine go ?_
   obtain ⟨r1V25, r2V25, r3V25, r4V25⟩ := SG_small (V := V25) (by rw [hstV259]; exact hok1)
   refine x_c func22 rfl rfl (requal_c V25 V41 0 0 0 0 0 0 _ (hIV25.keepN hFV25 ((((((((((((((((Upd.refl (fun i => i < w20.heap.size) _).nx u34).next u37 (fun i hi (h : i = bk31) => show i < w20.heap.size by first | omega | assumption)).nx u44).nx u50).next u53 (fun i hi (h : i = bk47) => show i < w20.heap.size by first | omega | assumption)).nx u61).nx u66).nx u79).nx u84).nx u90).nx u96).next u99 (fun i hi (h : i = bk93) => show i < w20.heap.size by first | omega | assumption)).nx u106).nx u112).next u115 (fun i hi (h : i = bk109) => show i < w20.heap.size by first | omega | assumption)) (fun i h => h)) (hIV41.ext (((((((((((((Upd.refl (fun _ => False) _).nx u50).next u53 (fun i hi (h : i = bk47) => show False by first | omega | assumption)).nx u61).nx u66).nx u79).nx u84).nx u90).nx u96).next u99 (fun i hi (h : i = bk93) => show False by first | omega | assumption)).nx u106).nx u112).next u115 (fun i hi (h : i = bk109) => show False by first | omega | assumption))) (hstV259.trans hstV419.symm) (by omega) (by omega) (by omega) r4V25) ?_
   rintro _ w120 ⟨rfl, u121⟩ zu121
   iterate 4 refine st1 ?_
   refine t_samehd (v := .bool true) (by simp) ?_
   iterate 5 refine st1 ?_
   refine t_samehd (v := .bool true) (by simp) ?_
   refine go ?_
   obtain ⟨r1V87, r2V87, r3V87, r4V87⟩ := SG_small (V := V87) (by rw [hstV87]; exact hok2)
   refine x_c func22 rfl rfl (requal_c V87 V103 0 0 0 0 0 0 _ (hIV87.keepN hFV87 (((((((Upd.refl (fun i => i < w83.heap.size) _).nx u96).next u99 (fun i hi (h : i = bk93) => show i < w83.heap.size by first | omega | assumption)).nx u106).nx u112).next u115 (fun i hi (h : i = bk109) => show i < w83.heap.size by first | omega | assumption)).nx u121) (fun i h => h)) (hIV103.ext ((((Upd.refl (fun _ => False) _).nx u112).next u115 (fun i hi (h : i = bk109) => show False by first | omega | assumption)).nx u121)) (hstV87.trans hstV103.symm) (by omega) (by omega) (by omega) r4V87) ?_
   rintro _ w125 ⟨rfl, u126⟩ zu126
   refine go ?_
   refine x_c func13 rfl rfl (known_c _ (hT.ext (((((E101.u.nx u106).nx u112).next u115 (fun i hi h => by omega)).nx u121).nx u126)) (by omega)) ?_
   rintro _ w130 ⟨rfl, u131⟩ zu131
   refine go ?_
   refine f_1 results4 ?_
   exact ⟨rfl, u_d⟩
  refine go ?_
  refine x_n fun bk134 w135 ebk134 sbk134 B136 u137 => ?_
  refine go ?_
  have D140 := (hFe81.keep u137 (fun _ h => h))
  refine x_c func20 rfl rfl (by have h9 := Rep_c m ae81 ge81 0 ce81 V25 T1 _ (D140.sl (fun _ => rfl)) (by omega) (by omega) (hIV25.keepN hFV25 (((((((((((Upd.refl (fun i => i < w20.heap.size) _).nx u34).next u37 (fun i hi (h : i = bk31) => show i < w20.heap.size by first | omega | assumption)).nx u44).nx u50).next u53 (fun i hi (h : i = bk47) => show i < w20.heap.size by first | omega | assumption)).nx u61).nx u66).nx u79).nx u84).nx u137) (fun i h => h)) (by rw [hstV259]; exact hok1) (by omega); rw [hstV259] at h9; exact h9) ?_
  rintro _ w142 ⟨⟨V139, rfl, hIV139, hstV139, hFV139⟩, u143⟩ zu143
  refine go ?_
  refine x_s fun w146 sw146 B148 u147 => ?_
  have E149 := Sc.mk (((E86.u.nx u137).nx u143).next u147 (fun i hi h => by omega))
  refine go ?_
  refine x_c func21 rfl rfl (by have h9 := rRep_c m am bm om cm V41 T1 _ (hm.keep E149.u (fun _ h => h)) (by omega) (by omega) (hIV41.ext ((((((((((Upd.refl (fun _ => False) _).nx u50).next u53 (fun i hi (h : i = bk47) => show False by first | omega | assumption)).nx u61).nx u66).nx u79).nx u84).nx u137).nx u143).next u147 (fun i hi (h : i = bk134) => show False by first | omega | assumption))) (by rw [hstV419]; exact hok1) (by omega); rw [hstV419] at h9; exact h9) ?_
  rintro _ w153 ⟨⟨V151, rfl, hIV151, hstV151⟩, u154⟩ zu154
  refine go ?_
  refine x_n fun bk157 w158 ebk157 sbk157 B159 u160 => ?_
  refine x_s fun w162 sw162 B164 u163 => ?_
  refine go ?_
  obtain ⟨r1V25, r2V25, r3V25, r4V25⟩ := SG_small (V := V25) (by rw [hstV259]; exact hok1)
  refine x_c func22 rfl rfl (requal_c V25 V41 0 0 0 0 0 0 _ (hIV25.keepN hFV25 ((((((((((((((((Upd.refl (fun i => i < w20.heap.size) _).nx u34).next u37 (fun i hi (h : i = bk31) => show i < w20.heap.size by first | omega | assumption)).nx u44).nx u50).next u53 (fun i hi (h : i = bk47) => show i < w20.heap.size by first | omega | assumption)).nx u61).nx u66).nx u79).nx u84).nx u137).nx u143).next u147 (fun i hi (h : i = bk134) => show i < w20.heap.size by first | omega | assumption)).nx u154).nx u160).next u163 (fun i hi (h : i = bk157) => show i < w20.heap.size by first | omega | assumption)) (fun i h => h)) (hIV41.ext (((((((((((((Upd.refl (fun _ => False) _).nx u50).next u53 (fun i hi (h : i = bk47) => show False by first | omega | assumption)).nx u61).nx u66).nx u79).nx u84).nx u137).nx u143).next u147 (fun i hi (h : i = bk134) => show False by first | omega | assumption)).nx u154).nx u160).next u163 (fun i hi (h : i = bk157) => show False by first | omega | assumption))) (hstV259.trans hstV419.symm) (by omega) (by omega) (by omega) r4V25) ?_
  rintro _ w168 ⟨rfl, u169⟩ zu169
  iterate 4 refine st1 ?_
  refine t_samehd (v := .bool true) (by simp) ?_
  iterate 5 refine st1 ?_
  refine t_samehd (v := .bool true) (by simp) ?_
  refine go ?_
  obtain ⟨r1V139, r2V139, r3V139, r4V139⟩ := SG_small (V := V139) (by rw [hstV139]; exact hok2)
  refine x_c func22 rfl rfl (requal_c V139 V151 0 0 0 0 0 0 _ (hIV139.keepN hFV139 ((((((Upd.refl (fun i => i < w135.heap.size) _).next u147 (fun i hi (h : i = bk134) => show i < w135.heap.size by first | omega | assumption)).nx u154).nx u160).next u163 (fun i hi (h : i = bk157) => show i < w135.heap.size by first | omega | assumption)).nx u169) (fun i h => h)) (hIV151.ext ((((Upd.refl (fun _ => False) _).nx u160).next u163 (fun i hi (h : i = bk157) => show False by first | omega | assumption)).nx u169)) (hstV139.trans hstV151.symm) (by omega) (by omega) (by omega) r4V139) ?_
  rintro _ w173 ⟨rfl, u174⟩ zu174
  refine go ?_
  refine x_c func13 rfl rfl (known_c _ (hT.ext (((((E149.u.nx u154).nx u160).next u163 (fun i hi h => by omega)).nx u169).nx u174)) (by omega)) ?_
  rintro _ w178 ⟨rfl, u179⟩ zu179
  refine go ?_
  refine f_1 results4 ?_
  exact ⟨rfl, u_d⟩
 refine go ?_
 refine x_n fun bk182 w183 ebk182 sbk182 B184 u185 => ?_
 have E186 := Sc.mk (E80.u.nx u185)
 refine go ?_
 refine x_c func14 rfl rfl (entries_c m am bm om cm _ (hm.keep E186.u (fun _ h => h)) (by omega) (by omega)) ?_
 rintro _ w189 ⟨⟨ae187, ge187, ce187, rfl, hFe187⟩, u190⟩ zu190
 have lt_ge187 := hFe187.lt
 refine go ?_
 refine x_c func20 rfl rfl (by have h9 := Rep_c m ae187 ge187 0 ce187 V25 T1 _ (hFe187.sl (fun _ => rfl)) (by omega) (by omega) (hIV25.keepN hFV25 (((((((((((Upd.refl (fun i => i < w20.heap.size) _).nx u34).next u37 (fun i hi (h : i = bk31) => show i < w20.heap.size by first | omega | assumption)).nx u44).nx u50).next u53 (fun i hi (h : i = bk47) => show i < w20.heap.size by first | omega | assumption)).nx u61).nx u66).nx u79).nx u185).nx u190) (fun i h => h)) (by rw [hstV259]; exact hok1) (by omega); rw [hstV259] at h9; exact h9) ?_
 rintro _ w195 ⟨⟨V193, rfl, hIV193, hstV193, hFV193⟩, u196⟩ zu196
 refine go ?_
 refine x_s fun w199 sw199 B201 u200 => ?_
 have E202 := Sc.mk (((E186.u.nx u190).nx u196).next u200 (fun i hi h => by omega))
 refine go ?_
 refine x_c func21 rfl rfl (by have h9 := rRep_c m am bm om cm V41 T1 _ (hm.keep E202.u (fun _ h => h)) (by omega) (by omega) (hIV41.ext ((((((((((Upd.refl (fun _ => False) _).nx u50).next u53 (fun i hi (h : i = bk47) => show False by first | omega | assumption)).nx u61).nx u66).nx u79).nx u185).nx u190).nx u196).next u200 (fun i hi (h : i = bk182) => show False by first | omega | assumption))) (by rw [hstV419]; exact hok1) (by omega); rw [hstV419] at h9; exact h9) ?_
 rintro _ w206 ⟨⟨V204, rfl, hIV204, hstV204⟩, u207⟩ zu207
 refine go ?_
 refine x_n fun bk210 w211 ebk210 sbk210 B212 u213 => ?_
 refine x_s fun w215 sw215 B217 u216 => ?_
 refine go ?_
 obtain ⟨r1V25, r2V25, r3V25, r4V25⟩ := SG_small (V := V25) (by rw [hstV259]; exact hok1)
 refine x_c func22 rfl rfl (requal_c V25 V41 0 0 0 0 0 0 _ (hIV25.keepN hFV25 ((((((((((((((((Upd.refl (fun i => i < w20.heap.size) _).nx u34).next u37 (fun i hi (h : i = bk31) => show i < w20.heap.size by first | omega | assumption)).nx u44).nx u50).next u53 (fun i hi (h : i = bk47) => show i < w20.heap.size by first | omega | assumption)).nx u61).nx u66).nx u79).nx u185).nx u190).nx u196).next u200 (fun i hi (h : i = bk182) => show i < w20.heap.size by first | omega | assumption)).nx u207).nx u213).next u216 (fun i hi (h : i = bk210) => show i < w20.heap.size by first | omega | assumption)) (fun i h => h)) (hIV41.ext (((((((((((((Upd.refl (fun _ => False) _).nx u50).next u53 (fun i hi (h : i = bk47) => show False by first | omega | assumption)).nx u61).nx u66).nx u79).nx u185).nx u190).nx u196).next u200 (fun i hi (h : i = bk182) => show False by first | omega | assumption)).nx u207).nx u213).next u216 (fun i hi (h : i = bk210) => show False by first | omega | assumption))) (hstV259.trans hstV419.symm) (by omega) (by omega) (by omega) r4V25) ?_
 rintro _ w221 ⟨rfl, u222⟩ zu222
 iterate 4 refine st1 ?_
 refine t_samehd (v := .bool true) (by simp) ?_
 iterate 5 refine st1 ?_
 refine t_samehd (v := .bool true) (by simp) ?_
 refine go ?_
 obtain ⟨r1V193, r2V193, r3V193, r4V193⟩ := SG_small (V := V193) (by rw [hstV193]; exact hok2)
 refine x_c func22 rfl rfl (requal_c V193 V204 0 0 0 0 0 0 _ (hIV193.keepN hFV193 ((((((Upd.refl (fun i => i < w189.heap.size) _).next u200 (fun i hi (h : i = bk182) => show i < w189.heap.size by first | omega | assumption)).nx u207).nx u213).next u216 (fun i hi (h : i = bk210) => show i < w189.heap.size by first | omega | assumption)).nx u222) (fun i h => h)) (hIV204.ext ((((Upd.refl (fun _ => False) _).nx u213).next u216 (fun i hi (h : i = bk210) => show False by first | omega | assumption)).nx u222)) (hstV193.trans hstV204.symm) (by omega) (by omega) (by omega) r4V193) ?_
 rintro _ w226 ⟨rfl, u227⟩ zu227
 refine go ?_
 refine x_c func13 rfl rfl (known_c _ (hT.ext (((((E202.u.nx u207).nx u213).next u216 (fun i hi h => by omega)).nx u222).nx u227)) (by omega)) ?_
 rintro _ w231 ⟨rfl, u232⟩ zu232
 refine go ?_
 refine f_1 results4 ?_
 exact ⟨rfl, u_d⟩

end Go.Proofs.YtjdcpnaocjddoaaGreatDoor
namespace Go.Proofs.YtjdcpnaocjddoaaGreatDoor
open Go Go.RowKit Go.Proofs.Tryz
end Go.Proofs.YtjdcpnaocjddoaaGreatDoor
namespace Go.Proofs.YtjdcpnaocjddoaaGreatDoor
open Go Go.RowKit
/-! ### the witness: a world in which the listed variables hold what is told of them -/
def litC : DataW Unit → Value
  | .lit (.int k n) => .int k n
  | _ => .int .i64 0
def aggC : DataW Unit → List Value
  | .agg l => l.map litC
  | _ => []
def aggD : DataW Unit → List Value
  | .agg l => l.flatMap aggC
  | _ => []
def strC : DataW Unit → Value
  | .iface _ (.ptr (.agg [.lit (.string s)])) => .string ⟨s.toArray⟩
  | _ => .int .i64 0
def setC (cs : List Value) : Obj → Obj
  | .cells _ t f => .cells cs.toArray t f
  | o => o
noncomputable def laidWorld (os : Os) : World :=
  { World.holding Tryz.prog os ⟨#[], #[], []⟩ with heap := (((((((((World.holding Tryz.prog os ⟨#[], #[], []⟩).heap.modify 6 (setC (aggC Rows.laid_math_bits_deBruijn32tab))).modify 7 (setC (aggC Rows.laid_math_bits_deBruijn64tab))).modify 5 (setC (aggC Rows.laid_internal_strconv_uint64pow10))).modify 4 (setC (aggD Rows.laid_unicode_utf8_acceptRanges))).modify 3 (setC (aggC Rows.laid_unicode_utf8_first))).modify 2 (setC [.iface 261 (.pointer (some ⟨13, 0, none⟩))])).modify 1 (setC [.iface 261 (.pointer (some ⟨14, 0, none⟩))])).push (.cells #[strC Rows.laid_strconv_ErrRange] 263 (0, 0))).push (.cells #[strC Rows.laid_strconv_ErrSyntax] 263 (0, 0)) }
theorem laid_met (os : Os) (args : Array Value) : laidMet Tryz.prog Rows.logsCodesRow.laid ((laidWorld os).forCall (fun _ _ => 0) ⟨#[], args, []⟩).memory :=
  laidMet_of_run' 8 (by kernel_rfl) (by kernel_rfl)
theorem glob5 : Tryz.prog.globalNamed "internal/strconv.uint64pow10" = some 5 := by kernel_rfl
theorem glob5t : (Tryz.prog.globals[5]?).map (·.type) = some 266 := by kernel_rfl
theorem tab_of_laid {W : World} (h : laidMet Tryz.prog Rows.logsCodesRow.laid W) : Tab10 W := by
  have e : (Rows.laid_internal_strconv_uint64pow10 : DataW Unit) = Lib.tabData .u64 Lib.pow10Tab := by kernel_rfl
  obtain ⟨ps, ⟨_, _, _, _, _, _, _, _, _, _, ⟨_, _, _, _, _, _, _, _, _, _, ⟨g', t', cs, fuel, p, q, hg', ht', hvar, hd, _, _⟩, _⟩, _⟩, _⟩ := h
  obtain rfl := Option.some.inj (glob5.symm.trans hg')
  obtain rfl := Option.some.inj (glob5t.symm.trans ht')
  unfold Tab10 Lib.TabIs
  rw [hvar, ← Lib.cells_of_tab (t := 266) (e := 214) (n := 20) (k := .u64) (zs := Lib.pow10Tab) Tryz.underlying266 Tryz.underlying214 (by kernel_rfl) (by kernel_rfl) (by rw [← e]; exact hd)]
theorem tab_pos {w : World} (h : Tab10 w) : 0 < w.heap.size := by
  unfold Tab10 Lib.TabIs World.var? at h
  rw [glob5] at h
  simp only [Option.bind_some] at h
  rcases Nat.lt_or_ge 5 w.heap.size with q | q
  · omega
  · rw [Array.getElem?_eq_none q] at h; cases h

end Go.Proofs.YtjdcpnaocjddoaaGreatDoor
