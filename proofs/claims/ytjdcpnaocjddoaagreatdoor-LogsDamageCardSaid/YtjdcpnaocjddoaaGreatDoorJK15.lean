/-
  Part 15 of the proof: contracts and plain laws. Conditions: none.
-/
import Derived.Test.YtjdcpnaocjddoaaGreatDoorJK14
namespace Go.Proofs.YtjdcpnaocjddoaaGreatDoor
open Go Go.RowKit Go.Proofs.Tryz
theorem own71 : Own Tryz.prog 71 := ⟨Tryz.f71, func71, by kernel_rfl, by kernel_rfl⟩
theorem own72 : Own Tryz.prog 72 := ⟨Tryz.f72, func72, by kernel_rfl, by kernel_rfl⟩

theorem scode_c (s : Scr) (bs : Nat) (w0 : World) (hS : Blk w0 bs 133 [.string (strB s.r), .bool s.b]) (hl : s.r.length ≤ 1000000) :
    CallsV Tryz.prog 71 [.pointer (some ⟨bs, 0, none⟩)] w0 (fun v w' => v = .int .i64 (cdV s) ∧ Blk w' bs 133 [.string (strB (cdS s).r), .bool (cdS s).b] ∧ Upd (fun i => i = bs) w0 w') := by
 have lt_bs := hS.lt
 refine f_n func71 ?_
 refine go ?_
 refine x_c func26 rfl rfl (Decode_c s.r _ (by omega)) ?_
 rintro _ w4 ⟨rfl, u5⟩ zu5
 refine go ?_
 refine q_p (fun g16 => ?_) fun g16 => ?_
 ·
  have hdz : ¬ (decP s.r).2.2 = 0 := by omega
  have hcs : cdS s = ⟨s.r, true⟩ := by unfold cdS; rw [if_neg hdz]
  have hcv : cdV s = 0 := by unfold cdV; rw [if_neg hdz]
  refine go ?_
  refine x_s fun w11 sw11 B13 u12 => ?_
  refine go ?_
  refine f_1 results71 ?_
  rw [hcs, hcv]
  exact ⟨rfl, B13, u_d⟩
 have hdz : (decP s.r).2.2 = 0 := by omega
 have hdo := decP_ok hdz
 have hcs : cdS s = ⟨s.r.drop (decP s.r).2.1.toNat, s.b⟩ := by unfold cdS; rw [if_pos hdz]
 have hcv : cdV s = (decP s.r).1 := by unfold cdV; rw [if_pos hdz]
 refine go ?_
 refine t_subS ((decP s.r).2.1.toNat) s.r.length underlying9 rfl rfl rfl (.inl ⟨rfl, rfl, by first | rfl | omega⟩) (.inr ⟨rfl, rfl⟩) (k' := .i64) (n := 0) (x2 := .tmp 0) (by omega) (by omega) (t_same 26 (v := .string (strB (s.r.drop (decP s.r).2.1.toNat))) rfl (congrArg (fun z => Value.string (strB z)) (List.take_of_length_le (by rw [List.length_drop]; omega))) ?_)
 refine go ?_
 refine x_s fun w17 sw17 B19 u18 => ?_
 refine go ?_
 refine f_1 results71 ?_
 rw [hcs, hcv]
 exact ⟨rfl, B19, u_d⟩

set_option maxHeartbeats 4000000 in
theorem sentry_c (s : Scr) (m : Int) (bs : Nat) (w0 : World) (hS : Blk w0 bs 133 [.string (strB s.r), .bool s.b]) (hl : s.r.length ≤ 1000000) (hbt : bitL s.r) (hm : 0 ≤ m ∧ m ≤ 1000000000000000) :
    CallsV Tryz.prog 72 [.pointer (some ⟨bs, 0, none⟩), .int .i64 m] w0 (fun v w' => v = .agg #[.int .i64 (entV s m).m, .int .i64 (entV s m).k, .int .i64 (entV s m).h, .int .i64 (entV s m).p, .int .i64 (entV s m).b, .int .i64 (entV s m).t] ∧ Blk w' bs 133 [.string (strB (entS s).r), .bool (entS s).b] ∧ Upd (fun i => i = bs) w0 w') := by
 have lt_bs := hS.lt
 obtain ⟨hm0, hm1⟩ := hm
 refine f_n func72 ?_
 refine go ?_
 refine x_n fun bk2 w3 ebk2 sbk2 B4 u5 => ?_
 refine go ?_
 refine t_lenS underlying9 rfl rfl rfl rfl ?_
 refine go ?_
 refine q_p (fun g10 => ?_) fun g10 => ?_
 ·
  refine go ?_
  refine x_s fun w10 sw10 B12 u11 => ?_
  refine go ?_
  refine x_s fun w15 sw15 B17 u16 => ?_
  refine go ?_
  refine f_ret1 (v := .agg #[.int .i64 0, .int .i64 0, .int .i64 0, .int .i64 0, .int .i64 0, .int .i64 0]) results72 ⟨_, _, rfl, run_loadVarN (vs := [.int .i64 0, .int .i64 0, .int .i64 0, .int .i64 0, .int .i64 0, .int .i64 0]) isAgg43 sizeOf43 rfl (B17.at.sub 0 6)⟩ ?_
  have B19 := (B12.keep u16 (by omega))
  have e0 : s.r.length < 2 := by omega
  have e1 : entV s m = ⟨0, 0, 0, 0, 0, 0⟩ := by unfold entV; rw [if_pos e0]
  have e2 : entS s = ⟨s.r, true⟩ := by unfold entS; rw [if_pos e0]
  rw [e1, e2]
  exact ⟨rfl, B19, u_d⟩
 have hb0 := bit_nth hbt (show 0 < s.r.length by omega)
 have hb1 := bit_nth hbt (show 1 < s.r.length by omega)
 unfold d48 at hb0 hb1
 have hkn : knd s = 1 + 2 * (((nth s.r 0).toNat : Int) - 48) + (((nth s.r 1).toNat : Int) - 48) := rfl
 have hl2 : (s2_ s).r.length + 2 = s.r.length := by show (s.r.drop 2).length + 2 = _; rw [List.length_drop]; omega
 refine go ?_
 refine c_drawnM follows (fun i => i = bk2) (OTl [0, 2, 4, 6, 8, 10, 12, 14, 16, 18, 20, 22, 24, 26, 28, 30, 32, 34, 37]) (by kernel_rfl) fun w21 u22 => ?_
 have zu22 := u22.size
 refine go ?_
 refine y_idxS 0 underlying9 rfl rfl rfl rfl rfl (by omega) (y_bo (Bo.ari8 rfl (by omega)) rfl rfl rfl rfl (y_conv underlying5 underlying41 rfl rfl rfl (IntWalk.i64_in _ (by omega)) (y_bo (Bo.shl1 (by omega)) rfl rfl rfl rfl ?_)))
 refine go ?_
 refine y_idxS 1 underlying9 rfl rfl rfl rfl rfl (by omega) (y_bo (Bo.ari8 rfl (by omega)) rfl rfl rfl rfl (y_conv underlying5 underlying41 rfl rfl rfl (IntWalk.i64_in _ (by omega)) ?_))
 refine st1 ?_
 refine y_same 31 (v := .int .i64 (knd s)) rfl (congrArg (Value.int .i64) (by rw [hkn])) ?_
 refine go ?_
 refine x_s fun w24 sw24 B26 u25 => ?_
 refine go ?_
 refine t_subS 2 s.r.length underlying9 rfl rfl rfl (.inl ⟨rfl, rfl, by first | rfl | omega⟩) (.inr ⟨rfl, rfl⟩) (k' := .i64) (n := 0) (x2 := .tmp 0) (by omega) (by omega) (t_same 38 (v := .string (strB ((s2_ s).r))) rfl (congrArg (fun z => Value.string (strB z)) (List.take_of_length_le (by rw [List.length_drop]; omega))) ?_)
 refine go ?_
 refine x_s fun w29 sw29 B31 u30 => ?_
 refine go ?_
 refine t_call own71 rfl rfl rfl rfl (scode_c (s2_ s) bs _ B31 (by omega)) (fun v35 w36 r38 => ?_)
 obtain ⟨rfl, hSs34, u37⟩ := r38
 have zu37 := u37.size
 have hvs34 := cdV_r (s2_ s)
 have hls34 := cdS_r (s2_ s)
 refine go ?_
 refine t_call own71 rfl rfl rfl rfl (scode_c (cdS (s2_ s)) bs _ hSs34 (by omega)) (fun v41 w42 r44 => ?_)
 obtain ⟨rfl, hSs40, u43⟩ := r44
 have zu43 := u43.size
 have hvs40 := cdV_r (cdS (s2_ s))
 have hls40 := cdS_r (cdS (s2_ s))
 refine go ?_
 refine x_s fun w46 sw46 B48 u47 => ?_
 refine go ?_
 refine x_s fun w50 sw50 B52 u51 => ?_
 refine go ?_
 refine x_c func95 rfl rfl (isPlace_c (knd s) _) ?_
 rintro _ w57 ⟨rfl, u58⟩ zu58
 refine go ?_
 refine q_b (fun g52 => ?_) fun g52 => ?_
 ·
  refine go ?_
  have B62 := (((hSs40.keep u47 (by omega)).keep u51 (by omega)).kx u58)
  refine t_call own71 rfl rfl rfl rfl (scode_c (cdS (cdS (s2_ s))) bs _ B62 (by omega)) (fun v64 w65 r67 => ?_)
  obtain ⟨rfl, hSs63, u66⟩ := r67
  have zu66 := u66.size
  have hvs63 := cdV_r (cdS (cdS (s2_ s)))
  have hls63 := cdS_r (cdS (cdS (s2_ s)))
  refine go ?_
  refine x_s fun w69 sw69 B71 u70 => ?_
  refine go ?_
  refine x_s fun w74 sw74 B76 u75 => ?_
  refine go ?_
  refine f_ret1 (v := .agg #[.int .i64 (m + (cdV (s2_ s))), .int .i64 (knd s), .int .i64 (1 + (cdV (cdS (s2_ s)))), .int .i64 (cdV (cdS (cdS (s2_ s)))), .int .i64 0, .int .i64 0]) results72 ⟨_, _, rfl, run_loadVarN (vs := [.int .i64 (m + (cdV (s2_ s))), .int .i64 (knd s), .int .i64 (1 + (cdV (cdS (s2_ s)))), .int .i64 (cdV (cdS (cdS (s2_ s)))), .int .i64 0, .int .i64 0]) isAgg43 sizeOf43 rfl (B76.at.sub 0 6)⟩ ?_
  have B78 := ((hSs63.keep u70 (by omega)).keep u75 (by omega))
  have e0 : ¬ s.r.length < 2 := by omega
  have e1 : entV s m = ⟨m + cdV (s2_ s), knd s, 1 + cdV (cdS (s2_ s)), cdV (cdS (cdS (s2_ s))), 0, 0⟩ := by unfold entV; rw [if_neg e0, if_pos g52]
  have e2 : entS s = (cdS (cdS (cdS (s2_ s)))) := by unfold entS; rw [if_neg e0, if_pos g52]
  rw [e1, e2]
  exact ⟨rfl, B78, u_d⟩
 refine go ?_
 have B80 := (((hSs40.keep u47 (by omega)).keep u51 (by omega)).kx u58)
 refine t_call own71 rfl rfl rfl rfl (scode_c (cdS (cdS (s2_ s))) bs _ B80 (by omega)) (fun v82 w83 r85 => ?_)
 obtain ⟨rfl, hSs81, u84⟩ := r85
 have zu84 := u84.size
 have hvs81 := cdV_r (cdS (cdS (s2_ s)))
 have hls81 := cdS_r (cdS (cdS (s2_ s)))
 refine go ?_
 refine t_call own71 rfl rfl rfl rfl (scode_c (cdS (cdS (cdS (s2_ s)))) bs _ hSs81 (by omega)) (fun v88 w89 r91 => ?_)
 obtain ⟨rfl, hSs87, u90⟩ := r91
 have zu90 := u90.size
 have hvs87 := cdV_r (cdS (cdS (cdS (s2_ s))))
 have hls87 := cdS_r (cdS (cdS (cdS (s2_ s))))
 refine go ?_
 refine x_s fun w93 sw93 B95 u94 => ?_
 refine go ?_
 refine x_s fun w97 sw97 B99 u98 => ?_
 refine go ?_
 refine x_s fun w102 sw102 B104 u103 => ?_
 refine go ?_
 refine f_ret1 (v := .agg #[.int .i64 (m + (cdV (s2_ s))), .int .i64 (knd s), .int .i64 (1 + (cdV (cdS (s2_ s)))), .int .i64 0, .int .i64 (1 + (cdV (cdS (cdS (s2_ s))))), .int .i64 (1 + (cdV (cdS (cdS (cdS (s2_ s))))))]) results72 ⟨_, _, rfl, run_loadVarN (vs := [.int .i64 (m + (cdV (s2_ s))), .int .i64 (knd s), .int .i64 (1 + (cdV (cdS (s2_ s)))), .int .i64 0, .int .i64 (1 + (cdV (cdS (cdS (s2_ s))))), .int .i64 (1 + (cdV (cdS (cdS (cdS (s2_ s))))))]) isAgg43 sizeOf43 rfl (B104.at.sub 0 6)⟩ ?_
 have B106 := (((hSs87.keep u94 (by omega)).keep u98 (by omega)).keep u103 (by omega))
 have e0 : ¬ s.r.length < 2 := by omega
 have e1 : entV s m = ⟨m + cdV (s2_ s), knd s, 1 + cdV (cdS (s2_ s)), 0, 1 + cdV (cdS (cdS (s2_ s))), 1 + cdV (cdS (cdS (cdS (s2_ s))))⟩ := by unfold entV; rw [if_neg e0, if_neg (by rw [g52]; decide)]
 have e2 : entS s = (cdS (cdS (cdS (cdS (s2_ s))))) := by unfold entS; rw [if_neg e0, if_neg (by rw [g52]; decide)]
 rw [e1, e2]
 exact ⟨rfl, B106, u_d⟩

end Go.Proofs.YtjdcpnaocjddoaaGreatDoor
namespace Go.Proofs.YtjdcpnaocjddoaaGreatDoor
open Go Go.RowKit Go.Proofs.Tryz
theorem y_ldY {rd : Option Nat} {P : Program} {ops : Array Oper} {Q : Exit → Act → World → Prop} {N : Nat} {ds : List Deferred} {T : Nat → Prop} {w1 : World} {L : Slots} {w : World} {rest : OX} {d : Nat} {ty : TypeId} {pos : String} {aft : Array Edge} {g : Option (Nat × Bool)} {t : TypeId} {x : Operand} {n b off : Nat} {l : List UInt8} (ha : ∀ w, (isAgg t).run P w = .ok true w) (hs : ∀ w, (sizeOf t).run P w = .ok n w) (hg : grd ops L g = true) (hN : Nat.blt d N = true)
    (hx : ev L x = some (.pointer (some ⟨b, off, none⟩))) (hc : At w1 b off (ys l)) (hl : l.length = n) (hn : ¬ T b)
    (h : SC rd P ops Q N ds w1 (SW w1.heap.size T) rest ((d, .agg (ys l).toArray) :: L) w) : SC rd P ops Q N ds w1 (SW w1.heap.size T) (.look ⟨some d, .load t x, ty, pos, aft, g⟩ rest) L w :=
  y_loadN ha hs hg hN hx hc (by rw [ys_length]; exact hl) hn h

set_option maxHeartbeats 4000000 in
theorem tape_c (v : List Bk) (av : Option Addr) (bv ov cv : Nat) (w0 : World) (hv : Sl encBk 32 w0 av bv ov v) (hvl : v.length ≤ 1300) (hpos : 0 < w0.heap.size) :
    CallsV Tryz.prog 70 [.slice av v.length cv] w0 (fun v' w' => (∃ a9 g9 c9, v' = .slice a9 (List.length (tapB v v.length)) c9 ∧ Acc encY 1 5 w0.heap.size w' a9 g9 c9 (tapB v v.length)) ∧ Ext w0 w') := by
 refine f_n func70 ?_
 refine go ?_
 refine x_n fun bk2 w3 ebk2 sbk2 B4 u5 => ?_
 have hN7 : Acc encY 1 5 w3.heap.size w3 none 0 0 ([] : List UInt8) := Acc.nil _ _ _ _ _ (by omega) (Nat.le_refl _)
 have lt_0 := hN7.lt
 refine go ?_
 refine x_l5 (fun i => i = bk2 ∨ (i = 0 ∧ w3.heap.size ≤ i)) [0, 2, 9, 10] (fun (k : Nat) (a1 : Option Addr) (g1 : Nat) (c1 : Nat) (cur : List UInt8) => [(11, .int .i64 (k : Int))]) (fun k a1 g1 c1 cur w => Blk w bk2 118 [.slice a1 cur.length c1] ∧ (k ≤ v.length) ∧ (Acc encY 1 5 w3.heap.size w a1 g1 c1 cur) ∧ (cur = tapB v k) ∧ ((g1 = 0 ∨ w3.heap.size ≤ g1))) (fun k a1 g1 c1 cur => v.length - k) 0 none 0 0 ([] : List UInt8) ⟨B4, (Nat.zero_le _), hN7, rfl, (.inl rfl)⟩ ?_
 rintro k a1 g1 c1 cur w11 ⟨I13, hk, hA, hcu, hg1⟩ u12 zu12 K10 hK10
 have E14 := Sc.mk (((Upd.refl (fun _ => False) w0).nx u5).next u12 (fun i hi h => by omega))
 have lt_g1 := hA.lt
 have htb := (tapB_len v k).1
 have hcl := congrArg List.length hcu
 refine go ?_
 refine q_p (fun g12 => ?_) fun g12 => ?_
 ·
  have h30 := blk30 (nth v k)
  refine go ?_
  refine g_i k (hv.keep E14.u (fun _ h => h)) (fun _ => ?_)
  refine t_ldY (l := (nth v k).l) isAgg124 sizeOf124 rfl rfl rfl ((hv.keep E14.u (fun _ h => h)).at_ k (by omega)) (Bk.h (nth v k)) (t_alloc (cs := (ys (List.replicate 32 (0 : UInt8)))) zeroValue124 (by kernel_rfl) rfl rfl (fun bk20 w21 ebk20 sbk20 B22 u23 => ?_))
  refine go ?_
  refine t_stY sizeOf124 rfl rfl rfl B22 (Bk.h (nth v k)) (by rw [ys_length]; exact (by first | omega | simp | assumption)) (fun w25 sw25 B27 u26 => ?_)
  refine go ?_
  refine x_c func67 rfl rfl (group_c v.length k av cv _ (by omega) (by omega)) ?_
  rintro _ w32 ⟨rfl, u33⟩ zu33
  refine go ?_
  refine q_p (fun g24 => ?_) fun g24 => ?_
  ·
   refine go ?_
   have B37 := (((I13.kx u23).keep u26 (by omega)).kx u33)
   have D38 := (((hA.keep u23 (fun _ h => h)).keep u26 (fun hb => show ¬ (g1 = bk20) by first | omega | assumption)).keep u33 (fun _ h => h))
   exact hK10 (k + 1) a1 g1 c1 cur ⟨B37, (by omega), D38, (by show _ = tapB v k ++ tapG v v.length k; unfold tapG; rw [if_pos (by omega), List.append_nil]; exact hcu), (by omega)⟩
  refine go ?_
  refine t_arrS 0 30 underlying124 sizeOf5 rfl rfl rfl (.inr ⟨rfl, rfl⟩) (k := .i64) (m := 0) (x1 := .tmp 0) (.inl ⟨rfl, rfl, rfl⟩) (by omega) (by omega) (by omega) (t_same 25 (v := .slice (some ⟨bk20, 0 + 0 * 1, none⟩) (((nth v k).l.take 30).length) 32) rfl (by rw [h30]) ?_)
  refine go ?_
  have D40 := (((hA.keep u23 (fun _ h => h)).keep u26 (fun hb => show ¬ (g1 = bk20) by first | omega | assumption)).keep u33 (fun _ h => h))
  have B41 := (((I13.kx u23).keep u26 (by omega)).kx u33)
  refine x_l5 (fun i => i = bk2 ∨ (i = g1 ∧ w3.heap.size ≤ i)) [0, 2, 9, 10, 11, 25, 26] (fun (j : Nat) (a2 : Option Addr) (g2 : Nat) (c2 : Nat) (cur2 : List UInt8) => [(27, .int .i64 (j : Int))]) (fun j a2 g2 c2 cur2 w => Blk w bk2 118 [.slice a2 cur2.length c2] ∧ (j ≤ 30) ∧ (Acc encY 1 5 w3.heap.size w a2 g2 c2 cur2) ∧ (cur2 = (tapB v k ++ digs (((nth v k).l.take 30).take j))) ∧ ((g2 = g1 ∨ w32.heap.size ≤ g2))) (fun j a2 g2 c2 cur2 => 30 - j) 0 a1 g1 c1 cur ⟨B41, (Nat.zero_le _), D40, (by rw [hcu]; exact (List.append_nil _).symm), (.inl rfl)⟩ ?_
  rintro j a2 g2 c2 cur2 w43 ⟨I45, hj, hA2, hcu2, hg2⟩ u44 zu44 K42 hK42
  have lt_g2 := hA2.lt
  have hcl2 := congrArg List.length hcu2
  rw [List.length_append, digs_len, List.length_take, h30] at hcl2
  have hub := (nth ((nth v k).l.take 30) j).toNat_lt
  refine go ?_
  refine q_p (fun g28 => ?_) fun g28 => ?_
  ·
   refine go ?_
   have B51 := ((B27.kx u33).keep u44 (by omega))
   refine g_i j (by have h9 := (B51).at.ysub 0 30; rw [List.drop_zero] at h9; exact SlY.at (B51).lt h9) (fun _ => ?_)
   refine go ?_
   refine t_conv underlying5 underlying120 rfl rfl rfl (IntWalk.u64_in _ (by omega)) ?_
   refine x_c func94 rfl rfl (put_c ((nth ((nth v k).l.take 30) j).toNat) 8 bk2 w3.heap.size a2 g2 c2 cur2 _ I45 hA2 (by omega) (by omega) (by omega) (by omega) (by omega)) ?_
   rintro v54 w55 ⟨⟨at53, gt53, ct53, hBt53, hAt53, hGt53⟩, u56⟩ zu56
   have lt_gt53 := hAt53.lt
   refine go ?_
   exact hK42 (j + 1) at53 gt53 ct53 (cur2 ++ putP ((nth ((nth v k).l.take 30) j).toNat) 8) ⟨hBt53, (by omega), hAt53, (by rw [take_nth (show j < ((nth v k).l.take 30).length by omega), digs_app, ← List.append_assoc, ← hcu2]; show _ = cur2 ++ (putP _ 8 ++ []); rw [List.append_nil]), (by omega)⟩
  refine go ?_
  exact hK10 (k + 1) a2 g2 c2 cur2 ⟨I45, (by omega), hA2, (by rw [hcu2, show j = 30 by omega, List.take_of_length_le (by rw [blk30]; decide)]; show _ = tapB v k ++ tapG v v.length k; unfold tapG; rw [if_neg (by omega)]), (by omega)⟩
 refine go ?_
 refine x_s fun w60 sw60 B62 u61 => ?_
 refine go ?_
 refine f_ret1 (v := .slice a1 cur.length c1) results70 ⟨_, _, rfl, run_loadVar1 isAgg118 (B62.get rfl)⟩ ?_
 have D64 := (hA.keep u61 (fun hb => show ¬ (g1 = bk2) by first | omega | assumption))
 have hfin : cur = tapB v v.length := by rw [hcu, show k = v.length by omega]
 obtain ⟨gz, hz⟩ := Acc.lower (base' := w0.heap.size) D64 (by omega) hpos
 rw [hfin] at hz
 exact ⟨⟨a1, gz, c1, by rw [hfin], hz⟩, u_d⟩

theorem tapeE_c (v : List Bk) (av : Option Addr) (bv ov cv : Nat) (w0 : World) (hv : Sl encBk 32 w0 av bv ov v) (hvl : v.length ≤ 1300) (hpos : 0 < w0.heap.size) :
    CallsV Tryz.prog 70 [.slice av v.length cv] w0 fun v' w' => (∃ T a9 g9 c9, v' = .slice a9 (List.length T) c9 ∧ Acc encY 1 5 w0.heap.size w' a9 g9 c9 T ∧ T = tapB v v.length) ∧ Ext w0 w' :=
  CallsV.mono (tape_c v av bv ov cv w0 hv hvl hpos) (by rintro v' w' ⟨⟨a, g, c, rfl, h⟩, u⟩; exact ⟨⟨_, a, g, c, rfl, h, rfl⟩, u⟩)

theorem eqBk_c (a b : List Bk) (aa : Option Addr) (ba oa ca : Nat) (ab : Option Addr) (bb ob cb : Nat) (w0 : World) (ha : Sl encBk 32 w0 aa ba oa a) (hb : Sl encBk 32 w0 ab bb ob b) (hal : a.length ≤ 1000000) :
    CallsV Tryz.prog 73 [.slice aa a.length ca, .slice ab b.length cb] w0 (fun v w' => v = .bool (decide (a = b)) ∧ Ext w0 w') := by
 refine f_n func73 ?_
 refine go ?_
 refine q_p (fun g10 => ?_) fun g10 => ?_
 ·
  refine go ?_
  refine f_1 results73 ?_
  exact ⟨congrArg Value.bool (decide_eq_false (fun e => g10 (by rw [e]))).symm, u_d⟩
 refine go ?_
 refine x_l1 (fun _ => False) [0, 1, 12] (fun (j : Nat) => [(13, .int .i64 (j : Int))]) (fun j w => (j ≤ a.length) ∧ (a.take j = b.take j)) (fun j => a.length - j) 0 ⟨(Nat.zero_le _), rfl⟩ ?_
 rintro j w8 ⟨hj, he⟩ u9 zu9 K7 hK7
 refine go ?_
 refine q_p (fun g14 => ?_) fun g14 => ?_
 ·
  refine go ?_
  refine c_drawnM follows (fun _ => False) (OTl [0, 2, 4, 6, 8, 10, 12, 14, 16]) (by kernel_rfl) fun w16 u17 => ?_
  have zu17 := u17.size
  have E18 := Sc.mk (((Upd.refl (fun _ => False) w0).nx u9).nx u17)
  refine go ?_
  refine y_i j (ha.keep E18.u (fun _ h => h)) (fun _ => ?_)
  refine y_ldY (l := (nth a j).l) isAgg124 sizeOf124 rfl rfl rfl ((ha.keep E18.u (fun _ h => h)).at_ j (by omega)) (Bk.h (nth a j)) (fun h => h) ?_
  refine go ?_
  refine y_i j (hb.keep E18.u (fun _ h => h)) (fun _ => ?_)
  refine y_ldY (l := (nth b j).l) isAgg124 sizeOf124 rfl rfl rfl ((hb.keep E18.u (fun _ h => h)).at_ j (by omega)) (Bk.h (nth b j)) (fun h => h) (y_neS (xs := ys (nth a j).l) (ys := ys (nth b j).l) (by kernel_rfl) (run_eqArrY underlying124 (by kernel_rfl) underlying5 isAgg5 (by kernel_rfl) (Bk.h _) (Bk.h _)) rfl rfl rfl rfl ?_)
  refine go ?_
  refine q_b (fun g24 => ?_) fun g24 => ?_
  ·
   have hq : ¬ (nth a j = nth b j) := fun e => absurd g24 (by rw [e]; simp)
   refine go ?_
   refine f_1 results73 ?_
   exact ⟨congrArg Value.bool (decide_eq_false (nth_take_ne hq)).symm, u_d⟩
  have hq : (nth a j = nth b j) := Bk.ext' (by simpa using g24)
  refine go ?_
  exact hK7 (j + 1) ⟨(by omega), (take_eq he (by omega) (by omega) hq)⟩
 refine go ?_
 refine f_1 results73 ?_
 have hab : a = b := by
   rw [List.take_of_length_le (by omega), List.take_of_length_le (by omega)] at he
   exact he
 exact ⟨congrArg Value.bool (decide_eq_true hab).symm, u_d⟩

end Go.Proofs.YtjdcpnaocjddoaaGreatDoor
namespace Go.Proofs.YtjdcpnaocjddoaaGreatDoor
open Go Go.RowKit Go.Proofs.Tryz
set_option maxHeartbeats 4000000 in
theorem ReadLog_c (xs : List UInt8) (ab : Option Addr) (bb ob cb : Nat) (w0 : World) (hs : Sl encY 1 w0 ab bb ob xs) (hcb : xs.length ≤ cb) (hxl : xs.length ≤ 1000000) (hpos : 0 < w0.heap.size) :
    CallsV Tryz.prog 34 [.slice ab xs.length cb] w0 (fun v w' => (∃ a9 g9 c9, v = .tuple #[.slice a9 (List.length (readR xs).1) c9, .int .i64 (readR xs).2.1, .int .i64 (readR xs).2.2] ∧ Acc encEnt 6 43 w0.heap.size w' a9 g9 c9 (readR xs).1) ∧ Ext w0 w') := by
 refine f_n func34 ?_
 refine go ?_
 refine x_c func65 rfl rfl (open_c xs ab bb ob cb _ hs hcb (by omega) (by omega)) ?_
 rintro _ w4 ⟨⟨aO, gO, cO, rfl, hFO⟩, u5⟩ zu5
 have lt_gO := hFO.lt
 refine go ?_
 refine q_p (fun g16 => ?_) fun g16 => ?_
 ·
  refine go ?_
  refine f_ret3 (v1 := .slice none 0 0) (v2 := .int .i64 0) (v3 := .int .i64 (opE xs)) results34 rfl rfl rfl ?_
  have he : readR xs = ([], 0, opE xs) := by unfold readR; rw [if_pos g16]
  exact ⟨⟨none, 0, 0, by rw [he]; rfl, by rw [he]; exact (Acc.nil _ _ _ _ _ hpos (by omega))⟩, u_d⟩
 have hE0 : opE xs = 0 := by omega
 have hok := opE_ok hE0
 have hVl : (opP xs).length = xs.length / 32 := by unfold opP; rw [if_pos hE0, blksP_len]
 have hglO := hFO.lt
 refine go ?_
 refine x_l1 (fun _ => False) [5, 19] (fun (k : Nat) => [(2, .slice none 0 0), (20, .int .i64 (k : Int))]) (fun k w => (k ≤ (opP xs).length) ∧ (∀ i, i < k → badB (opP xs) i = false)) (fun k => (opP xs).length - k) 0 ⟨(Nat.zero_le _), (fun i h => absurd h (Nat.not_lt_zero _))⟩ ?_
 rintro k w14 ⟨hk, hgd⟩ u15 zu15 K13 hK13
 refine go ?_
 refine q_p (fun g21 => ?_) fun g21 => ?_
 ·
  refine go ?_
  have D22 := (hFO.keep u15 (fun _ h => h))
  refine g_i k (D22.sl encBk_len) (fun _ => ?_)
  refine go ?_
  refine x_c func66 rfl rfl (isSound_c gO (0 + k * 32) ((nth (opP xs) k).l) k _ (Bk.h _) ((D22.sl encBk_len).at_ k (by omega)) (by omega) (by omega)) ?_
  rintro _ w25 ⟨rfl, u26⟩ zu26
  refine go ?_
  refine q_p (fun g28 => ?_) fun g28 => ?_
  ·
   refine go ?_
   refine f_ret3 (v1 := .slice none 0 0) (v2 := .int .i64 (k : Int)) (v3 := .int .i64 121) results34 rfl rfl rfl ?_
   have hE1 : ¬ opE xs ≠ 0 := by omega
   obtain ⟨r9, hr9⟩ := badP_head (v := (opP xs)) (k := k) (by omega) (by unfold badB; rw [decide_eq_false g28]; rfl) hgd
   have he : readR xs = ([], (k : Int), 121) := by unfold readR; rw [if_neg hE1, hr9]
   exact ⟨⟨none, 0, 0, by rw [he]; rfl, by rw [he]; exact (Acc.nil _ _ _ _ _ hpos (by omega))⟩, u_d⟩
  refine go ?_
  exact hK13 (k + 1) ⟨(by omega), (fun i hi => by rcases Nat.lt_or_eq_of_le (Nat.le_of_lt_succ hi) with h | h; exact hgd i h; rw [h]; unfold badB; rw [decide_eq_true (Decidable.not_not.1 g28)]; rfl)⟩
 have hbn : badP (opP xs) = [] := badP_nil (fun i hi => hgd i (by omega))
 refine go ?_
 have D31 := (hFO.keep u15 (fun _ h => h))
 refine x_c func70 rfl rfl (tapeE_c (opP xs) aO gO 0 cO _ (D31.sl encBk_len) (by omega) (by omega)) ?_
 rintro _ w33 ⟨⟨T9, aT, gT, cT, rfl, hFT, hT9⟩, u34⟩ zu34
 have lt_gT := hFT.lt
 have htb := tapB_len (opP xs) (opP xs).length
 rw [← hT9] at htb
 obtain ⟨hTl, hTb⟩ := htb
 obtain ⟨s0, hs0⟩ : ∃ s : Scr, s = ⟨T9, false⟩ := ⟨_, rfl⟩
 have hp0 : parP T9 = parN (cdV s0 + 1).toNat (cdS s0) 0 [] := by rw [hs0]; rfl
 have hs0l : s0.r.length = T9.length := by rw [hs0]
 have hs0b : bitL s0.r := by rw [hs0]; exact hTb
 refine t_ofB underlying118 underlying5 underlying9 rfl rfl rfl (hFT.sl (fun _ => rfl)) rfl ?_
 refine go ?_
 refine x_b fun bk37 w38 ebk37 sbk37 B39 u40 => ?_
 refine go ?_
 have hB0 : Blk w38 bk37 133 [.string (strB s0.r), .bool s0.b] := by rw [hs0]; exact B39
 refine go ?_
 refine t_call own71 rfl rfl rfl rfl (scode_c s0 bk37 _ hB0 (by omega)) (fun v45 w46 r48 => ?_)
 obtain ⟨rfl, hSs44, u47⟩ := r48
 have zu47 := u47.size
 have hvs44 := cdV_r s0
 have hls44 := cdS_r s0
 refine st1 ?_
 refine t_same 38 (v := .int .i64 (((cdV s0 + 1).toNat : Nat) : Int)) rfl (congrArg (Value.int .i64) (by have h9 := cdV_r s0; omega)) ?_
 refine go ?_
 refine x_l5 (fun i => i = bk37 ∨ w46.heap.size ≤ i) [5, 7] (fun (n : Nat) (s : Scr) (m : Int) (E : List Ent) (q : (Option Addr × Nat × Nat)) => [(2, .slice q.1 E.length q.2.2), (8, .int .i64 m), (9, .int .i64 (n : Int))]) (fun n s m E q w => Blk w bk37 133 [.string (strB s.r), .bool s.b] ∧ (parP T9 = parN n s m E) ∧ (Acc encEnt 6 43 w0.heap.size w q.1 q.2.1 q.2.2 E) ∧ (q.2.1 = 0 ∨ w46.heap.size ≤ q.2.1) ∧ (bitL s.r) ∧ (2 * E.length + s.r.length ≤ T9.length + 2) ∧ (s.b = true ∨ 2 * E.length + s.r.length ≤ T9.length) ∧ (0 ≤ m ∧ m ≤ 1000000000 * (E.length : Int)) ∧ (n ≤ 1000000001)) (fun n s m E q => n) ((cdV s0 + 1).toNat) (cdS s0) 0 ([]) (none, 0, 0) ⟨hSs44, hp0, (Acc.nil _ _ _ _ _ hpos (by omega)), (.inl rfl), ((cdS_r s0).2.2 hs0b), (by have h9 := (cdS_r s0).1; simp only [List.length_nil]; omega), (.inr (by have h9 := (cdS_r s0).1; simp only [List.length_nil]; omega)), ⟨Int.le_refl 0, by decide⟩, (by have h9 := cdV_r s0; omega)⟩ ?_ (h0 := by exact ⟨rfl, rfl, (congrArg (fun z => some (Value.int .i64 z)) (by have h9 := cdV_r s0; omega)), rfl, rfl, trivial⟩)
 rintro n s m E q w51 ⟨I53, hpn, hA, hqW, hbt, hle, hle2, hm9, hn9⟩ u52 zu52 K50 hK50
 have lt_q_2_1 := hA.lt
 have hgl := hA.lt
 refine go ?_
 refine t_splitp 41 rfl (fun g41 => ?_) (fun g41 => ?_)
 ·
  refine go ?_
  refine q_b (fun g47 => ?_) fun g47 => ?_
  ·
   have hsb : s.b = false := by simpa using g47
   have hle3 : 2 * E.length + s.r.length ≤ T9.length := hle2.resolve_left (by rw [hsb]; decide)
   refine go ?_
   refine t_call own72 rfl rfl rfl rfl (sentry_c s m bk37 _ I53 (by omega) hbt (by omega)) (fun v60 w61 r63 => ?_)
   obtain ⟨rfl, hSs59, u62⟩ := r63
   have zu62 := u62.size
   have hes := entS_r s
   have hem := entV_m s m (by omega)
   refine x_l fun bk65 w66 ebk65 sbk65 B67 u68 => ?_
   have D70 := ((hA.keep u62 (fun hb => show ¬ (q.2.1 = bk37) by first | omega | assumption)).keep u68 (fun _ h => h))
   refine t_append (z := .agg #[.int .i64 0, .int .i64 0, .int .i64 0, .int .i64 0, .int .i64 0, .int .i64 0]) (bytes := 48) (k := 6) (base := w0.heap.size) (entV s m) underlying22 (by kernel_rfl) rfl (by decide) (fun _ => rfl) (by intro x; simp [encEnt, Value.oneCell']) rfl rfl rfl rfl D70 B67 (by omega) (by omega) (by decide) (fun ao71 gb72 cp73 w74 A75 u76 gegb72 lngb72 => ?_)
   have zu76 := u76.size
   have lt_gb72 := A75.lt
   refine go ?_
   refine g_i E.length (A75.sl (fun _ => rfl)) (fun _ => ?_) (hj := (by rw [List.length_append]; simp only [List.length_cons, List.length_nil]; omega))
   iterate 2 refine st1 ?_
   refine t_same 62 (v := .int .i64 ((entV s m).m)) rfl (congrArg (Value.int .i64) (by rw [nth_app_r (Nat.le_refl _), Nat.sub_self]; rfl)) ?_
   refine go ?_
   have hEl : (E ++ [entV s m]).length = E.length + 1 := by rw [List.length_append]; rfl
   have hn1 : n = (n - 1) + 1 := by omega
   have B79 := ((hSs59.kx u68).keep u76 (by omega))
   exact hK50 (n - 1) (entS s) ((entV s m).m) (E ++ [entV s m]) (ao71, gb72, cp73) ⟨B79, (by rw [hpn]; exact (congrArg (fun z => parN z s m E) hn1).trans (parN_step hsb)), A75, (show gb72 = 0 ∨ w46.heap.size ≤ gb72 by omega), (hes.2.2.2 hbt), (by rw [hEl]; omega), (by rw [hEl]; rcases Nat.lt_or_ge s.r.length 2 with h | h; exact .inl (hes.2.2.1 h); exact .inr (by have h9 := hes.2.1 h; omega)), (by rw [hEl]; omega), (by omega)⟩ (hs := by exact ⟨rfl, rfl, (congrArg (fun z => some (Value.int .i64 z)) (by omega)), rfl, rfl, trivial⟩)
  refine go ?_
  refine t_split 67 rfl (fun g67 => ?_) (fun g67 => ?_)
  ·
   refine go ?_
   refine f_ret3 (v1 := .slice none 0 0) (v2 := .int .i64 0) (v3 := .int .i64 4) results34 rfl rfl rfl ?_
   have hE1 : ¬ opE xs ≠ 0 := by omega
   have hpf : parP T9 = (E, s) := by rw [hpn]; first | (rw [show n = 0 by omega]; rfl) | exact parN_stop (by simpa using g47)
   rw [hT9] at hpf
   have he : readR xs = ([], 0, 4) := by unfold readR; rw [if_neg hE1, hbn]; show (if _ then _ else _) = _; rw [hpf, if_pos (.inl g67)]
   exact ⟨⟨none, 0, 0, by rw [he]; rfl, by rw [he]; exact (Acc.nil _ _ _ _ _ hpos (by omega))⟩, u_d⟩
  refine go ?_
  refine x_c func49 rfl rfl (checkEntries_c E q.1 q.2.1 0 q.2.2 _ (hA.sl (fun _ => rfl)) (by omega)) ?_
  rintro _ w85 ⟨rfl, u86⟩ zu86
  refine go ?_
  refine t_splitp 72 rfl (fun g72 => ?_) (fun g72 => ?_)
  ·
   refine go ?_
   refine f_ret3 (v1 := .slice none 0 0) (v2 := .int .i64 0) (v3 := .int .i64 4) results34 rfl rfl rfl ?_
   have hE1 : ¬ opE xs ≠ 0 := by omega
   have hpf : parP T9 = (E, s) := by rw [hpn]; first | (rw [show n = 0 by omega]; rfl) | exact parN_stop (by simpa using g47)
   rw [hT9] at hpf
   have he : readR xs = ([], 0, 4) := by unfold readR; rw [if_neg hE1, hbn]; show (if _ then _ else _) = _; rw [hpf, if_pos (.inr (.inl g72))]
   exact ⟨⟨none, 0, 0, by rw [he]; rfl, by rw [he]; exact (Acc.nil _ _ _ _ _ hpos (by omega))⟩, u_d⟩
  refine go ?_
  have D90 := (hA.keep u86 (fun _ h => h))
  refine x_c func50 rfl rfl (write_c E q.1 q.2.1 0 q.2.2 _ (D90.sl (fun _ => rfl)) (by omega)) ?_
  rintro _ w92 ⟨⟨aW, gW, cW, rfl, hFW⟩, u93⟩ zu93
  have lt_gW := hFW.lt
  have hwl := writeP_len (show chkE E = 0 by omega)
  refine go ?_
  have D96 := ((((((D31.keep u34 (fun _ h => h)).keep u40 (fun _ h => h)).keep u47 (fun hb => show ¬ (gO = bk37) by first | omega | assumption)).keep u52 (fun hb => show ¬ (gO = bk37 ∨ w46.heap.size ≤ gO) by first | omega | assumption)).keep u86 (fun _ h => h)).keep u93 (fun _ h => h))
  refine x_c func73 rfl rfl (eqBk_c (writeP E) (opP xs) aW gW 0 cW aO gO 0 cO _ (hFW.sl encBk_len) (D96.sl encBk_len) (by omega)) ?_
  rintro _ w98 ⟨rfl, u99⟩ zu99
  refine go ?_
  refine q_p (fun g78 => ?_) fun g78 => ?_
  ·
   refine go ?_
   refine f_ret3 (v1 := .slice none 0 0) (v2 := .int .i64 0) (v3 := .int .i64 4) results34 rfl rfl rfl ?_
   have hE1 : ¬ opE xs ≠ 0 := by omega
   have hpf : parP T9 = (E, s) := by rw [hpn]; first | (rw [show n = 0 by omega]; rfl) | exact parN_stop (by simpa using g47)
   rw [hT9] at hpf
   have he : readR xs = ([], 0, 4) := by unfold readR; rw [if_neg hE1, hbn]; show (if _ then _ else _) = _; rw [hpf, if_pos (.inr (.inr g78))]
   exact ⟨⟨none, 0, 0, by rw [he]; rfl, by rw [he]; exact (Acc.nil _ _ _ _ _ hpos (by omega))⟩, u_d⟩
  refine go ?_
  refine f_ret3 (v1 := .slice q.1 E.length q.2.2) (v2 := .int .i64 0) (v3 := .int .i64 0) results34 rfl rfl rfl ?_
  have D104 := ((D90.keep u93 (fun _ h => h)).keep u99 (fun _ h => h))
  have hE1 : ¬ opE xs ≠ 0 := by omega
  have hpf : parP T9 = (E, s) := by rw [hpn]; first | (rw [show n = 0 by omega]; rfl) | exact parN_stop (by simpa using g47)
  rw [hT9] at hpf
  have he : readR xs = (E, 0, 0) := by unfold readR; rw [if_neg hE1, hbn]; show (if _ then _ else _) = _; rw [hpf, if_neg (fun h => h.elim (fun h => by rw [h] at g67; cases g67) (fun h => h.elim (fun h => g72 h) (fun h => g78 h)))]
  exact ⟨⟨q.1, q.2.1, q.2.2, by rw [he], by rw [he]; exact D104⟩, u_d⟩
 refine go ?_
 refine t_split 67 rfl (fun g67 => ?_) (fun g67 => ?_)
 ·
  refine go ?_
  refine f_ret3 (v1 := .slice none 0 0) (v2 := .int .i64 0) (v3 := .int .i64 4) results34 rfl rfl rfl ?_
  have hE1 : ¬ opE xs ≠ 0 := by omega
  have hpf : parP T9 = (E, s) := by rw [hpn]; first | (rw [show n = 0 by omega]; rfl) | exact parN_stop (by simpa using g47)
  rw [hT9] at hpf
  have he : readR xs = ([], 0, 4) := by unfold readR; rw [if_neg hE1, hbn]; show (if _ then _ else _) = _; rw [hpf, if_pos (.inl g67)]
  exact ⟨⟨none, 0, 0, by rw [he]; rfl, by rw [he]; exact (Acc.nil _ _ _ _ _ hpos (by omega))⟩, u_d⟩
 refine go ?_
 refine x_c func49 rfl rfl (checkEntries_c E q.1 q.2.1 0 q.2.2 _ (hA.sl (fun _ => rfl)) (by omega)) ?_
 rintro _ w110 ⟨rfl, u111⟩ zu111
 refine go ?_
 refine t_splitp 72 rfl (fun g72 => ?_) (fun g72 => ?_)
 ·
  refine go ?_
  refine f_ret3 (v1 := .slice none 0 0) (v2 := .int .i64 0) (v3 := .int .i64 4) results34 rfl rfl rfl ?_
  have hE1 : ¬ opE xs ≠ 0 := by omega
  have hpf : parP T9 = (E, s) := by rw [hpn]; first | (rw [show n = 0 by omega]; rfl) | exact parN_stop (by simpa using g47)
  rw [hT9] at hpf
  have he : readR xs = ([], 0, 4) := by unfold readR; rw [if_neg hE1, hbn]; show (if _ then _ else _) = _; rw [hpf, if_pos (.inr (.inl g72))]
  exact ⟨⟨none, 0, 0, by rw [he]; rfl, by rw [he]; exact (Acc.nil _ _ _ _ _ hpos (by omega))⟩, u_d⟩
 refine go ?_
 have D115 := (hA.keep u111 (fun _ h => h))
 refine x_c func50 rfl rfl (write_c E q.1 q.2.1 0 q.2.2 _ (D115.sl (fun _ => rfl)) (by omega)) ?_
 rintro _ w117 ⟨⟨aW, gW, cW, rfl, hFW⟩, u118⟩ zu118
 have lt_gW := hFW.lt
 have hwl := writeP_len (show chkE E = 0 by omega)
 refine go ?_
 have D121 := ((((((D31.keep u34 (fun _ h => h)).keep u40 (fun _ h => h)).keep u47 (fun hb => show ¬ (gO = bk37) by first | omega | assumption)).keep u52 (fun hb => show ¬ (gO = bk37 ∨ w46.heap.size ≤ gO) by first | omega | assumption)).keep u111 (fun _ h => h)).keep u118 (fun _ h => h))
 refine x_c func73 rfl rfl (eqBk_c (writeP E) (opP xs) aW gW 0 cW aO gO 0 cO _ (hFW.sl encBk_len) (D121.sl encBk_len) (by omega)) ?_
 rintro _ w123 ⟨rfl, u124⟩ zu124
 refine go ?_
 refine q_p (fun g78 => ?_) fun g78 => ?_
 ·
  refine go ?_
  refine f_ret3 (v1 := .slice none 0 0) (v2 := .int .i64 0) (v3 := .int .i64 4) results34 rfl rfl rfl ?_
  have hE1 : ¬ opE xs ≠ 0 := by omega
  have hpf : parP T9 = (E, s) := by rw [hpn]; first | (rw [show n = 0 by omega]; rfl) | exact parN_stop (by simpa using g47)
  rw [hT9] at hpf
  have he : readR xs = ([], 0, 4) := by unfold readR; rw [if_neg hE1, hbn]; show (if _ then _ else _) = _; rw [hpf, if_pos (.inr (.inr g78))]
  exact ⟨⟨none, 0, 0, by rw [he]; rfl, by rw [he]; exact (Acc.nil _ _ _ _ _ hpos (by omega))⟩, u_d⟩
 refine go ?_
 refine f_ret3 (v1 := .slice q.1 E.length q.2.2) (v2 := .int .i64 0) (v3 := .int .i64 0) results34 rfl rfl rfl ?_
 have D129 := ((D115.keep u118 (fun _ h => h)).keep u124 (fun _ h => h))
 have hE1 : ¬ opE xs ≠ 0 := by omega
 have hpf : parP T9 = (E, s) := by rw [hpn]; first | (rw [show n = 0 by omega]; rfl) | exact parN_stop (by simpa using g47)
 rw [hT9] at hpf
 have he : readR xs = (E, 0, 0) := by unfold readR; rw [if_neg hE1, hbn]; show (if _ then _ else _) = _; rw [hpf, if_neg (fun h => h.elim (fun h => by rw [h] at g67; cases g67) (fun h => h.elim (fun h => g72 h) (fun h => g78 h)))]
 exact ⟨⟨q.1, q.2.1, q.2.2, by rw [he], by rw [he]; exact D129⟩, u_d⟩

end Go.Proofs.YtjdcpnaocjddoaaGreatDoor
namespace Go.Proofs.YtjdcpnaocjddoaaGreatDoor
open Go Go.RowKit
/-! ### a log is read as it was written -/
/-! the digits of a log's data -/
end Go.Proofs.YtjdcpnaocjddoaaGreatDoor
namespace Go.Proofs.YtjdcpnaocjddoaaGreatDoor
open Go Go.RowKit
/-! ### damage that is refused: logs -/
/-- the first j bytes are B's -/
def Bk.cpz (b B : Bk) (j : Nat) : Bk := ⟨B.l.take j ++ b.l.drop j, by have := b.h; have := B.h; rw [List.length_append, List.length_take, List.length_drop]; omega⟩
theorem cpz_zero (b B : Bk) : b.cpz B 0 = b := Bk.ext' rfl
theorem cpz_full (b B : Bk) : b.cpz B 32 = B := by
  have hb := b.h
  have hB := B.h
  apply Bk.ext'
  show B.l.take 32 ++ b.l.drop 32 = B.l
  rw [List.take_of_length_le (by omega), List.drop_of_length_le (by omega), List.append_nil]
theorem cpz_succ (b B : Bk) {j : Nat} (h : j < 32) : (b.cpz B j).put j (nth B.l j) = b.cpz B (j + 1) := by
  have hb := b.h
  have hB := B.h
  have hl : (B.l.take j).length = j := by rw [List.length_take]; omega
  apply Bk.ext'
  show (B.l.take j ++ b.l.drop j).set j (nth B.l j) = B.l.take (j + 1) ++ b.l.drop (j + 1)
  rw [List.set_append_right _ _ (by omega), hl, Nat.sub_self, drop_nth (show j < b.l.length by omega), List.set_cons_zero, take_nth (show j < B.l.length by omega), List.append_assoc]
  rfl
theorem first_bad {U : List Bk} {i : Nat} (hi : i < U.length) (hb : badB U i = true) (ho : ∀ k, k < i → badB U k = false) : ∃ r, badP U = i :: r := by
  have hm : i ∈ badP U := badP_iff.2 ⟨hi, hb⟩
  have hs := badP_sorted U
  cases hq : badP U with
  | nil => rw [hq] at hm; cases hm
  | cons k r =>
    have hk : k ∈ badP U := by rw [hq]; exact List.mem_cons_self
    rw [hq] at hm hs
    have h2 := (badP_iff.1 hk).2
    have h3 : i ≤ k := Nat.le_of_not_lt fun h => by rw [ho k h] at h2; cases h2
    rcases List.mem_cons.1 hm with e | e
    · exact ⟨r, by rw [e]⟩
    · have := (List.pairwise_cons.1 hs).1 i e
      omega
theorem readR_dmg {v U : List Bk} (hv : GoodV v) (h13 : v.length ≤ 1300) (hU : U.length = v.length) {k : Nat} (hk : k < v.length) (hb : badB U k = true) (ho : ∀ j, j < k → nth U j = nth v j) : readR (bytesP U) = ([], (k : Int), 121) := by
  obtain ⟨e0, e1⟩ := opE_bytes hv h13 hU
  obtain ⟨r, hr⟩ := first_bad (by omega) hb (fun j hj => by
    rw [badB_congr (ho j hj)]
    unfold badB
    rw [decide_eq_true (hv.ok j (by omega))]; rfl)
  unfold readR
  rw [if_neg (by omega), e1, hr]
/-- one changed byte -/
theorem readR_byte {v : List Bk} (hv : GoodV v) (h13 : v.length ≤ 1300) {k j : Nat} (hk : k < v.length) (hj : j < 32) {x : UInt8} (hx : x ≠ nth (bytesP v) (32 * k + j)) : readR ((bytesP v).set (32 * k + j) x) = ([], (k : Int), 121) := by
  rw [bytesP_put x v k j hk hj]
  refine readR_dmg hv h13 (by rw [List.length_set]) hk (badB_set hk (bad_put (hv.ok k hk) hj ?_)) (fun i hi => nth_setN (by omega) _)
  rw [bytesP_nth v k j hk hj] at hx; exact hx
theorem bad_swap {b : Bk} {k j : Nat} (hs : b.l.drop 30 = chkP b.l k) (hj : j + 1 < 30) (hx : nth b.l (j + 1) ≠ nth b.l j) : ¬ ((b.put j (nth b.l (j + 1))).put (j + 1) (nth b.l j)).l.drop 30 = chkP ((b.put j (nth b.l (j + 1))).put (j + 1) (nth b.l j)).l k := by
  intro h
  have hb := b.h
  have e0 : ((b.put j (nth b.l (j + 1))).put (j + 1) (nth b.l j)).l = (b.l.set j (nth b.l (j + 1))).set (j + 1) (nth b.l j) := rfl
  rw [e0] at h
  have e1 : ((b.l.set j (nth b.l (j + 1))).set (j + 1) (nth b.l j)).drop 30 = b.l.drop 30 := by rw [List.drop_set, if_pos hj, List.drop_set, if_pos (by omega)]
  have e2 : ((b.l.set j (nth b.l (j + 1))).set (j + 1) (nth b.l j)).take 30 = ((b.l.take 30).set j (nth b.l (j + 1))).set (j + 1) (nth b.l j) := by rw [List.take_set, List.take_set]
  rw [e1, hs] at h
  have h3 := chkP_inj h
  have hl : (b.l.take 30).length = 30 := by rw [List.length_take]; omega
  unfold chkN weighP at h3
  rw [e2, wsum_set _ _ 0 (j + 1) (by rw [List.length_set, hl]; omega), wsum_set _ _ 0 j (by rw [hl]; omega), nth_setN (by omega), nth_takeL (by omega), nth_takeL (by omega)] at h3
  have hd := u8_ne hx
  have r1 := (nth b.l j).toNat_lt
  have r2 := (nth b.l (j + 1)).toNat_lt
  have r3 : 0 ≤ ((nth b.l j).toNat : Int) ∧ ((nth b.l j).toNat : Int) ≤ 255 := by omega
  have r4 : 0 ≤ ((nth b.l (j + 1)).toNat : Int) ∧ ((nth b.l (j + 1)).toNat : Int) ≤ 255 := by omega
  clear r1 r2
  generalize ((nth b.l (j + 1)).toNat : Int) = y at h3 hd r4
  generalize ((nth b.l j).toNat : Int) = x at h3 hd r3
  have e9 : (((0 : Nat) : Int) + ((j + 1 : Nat) : Int) + 1) * (x - y) = (((0 : Nat) : Int) + (j : Int) + 1) * (x - y) + (x - y) := by
    rw [show ((0 : Nat) : Int) + ((j + 1 : Nat) : Int) + 1 = (((0 : Nat) : Int) + (j : Int) + 1) + 1 by omega, Int.add_mul, Int.one_mul]
  have e8 : (((0 : Nat) : Int) + (j : Int) + 1) * (y - x) = -((((0 : Nat) : Int) + (j : Int) + 1) * (x - y)) := by
    rw [show y - x = -(x - y) by omega, Int.mul_neg]
  rw [e9, e8] at h3
  generalize (((0 : Nat) : Int) + (j : Int) + 1) * (x - y) = D at h3
  omega
/-- two neighbours of a block's data exchanged -/
theorem readR_swap {v : List Bk} (hv : GoodV v) (h13 : v.length ≤ 1300) {k j : Nat} (hk : k < v.length) (hj : j + 1 < 30) (hx : nth (bytesP v) (32 * k + j + 1) ≠ nth (bytesP v) (32 * k + j)) :
    readR (((bytesP v).set (32 * k + j) (nth (bytesP v) (32 * k + j + 1))).set (32 * k + j + 1) (nth (bytesP v) (32 * k + j))) = ([], (k : Int), 121) := by
  have e1 := bytesP_nth v k (j + 1) hk (by omega)
  have e2 := bytesP_nth v k j hk (by omega)
  rw [← Nat.add_assoc] at e1
  rw [e1, e2] at hx ⊢
  rw [bytesP_put _ v k j hk (by omega), Nat.add_assoc, bytesP_put _ _ k (j + 1) (by rw [List.length_set]; exact hk) (by omega), nth_setE hk, set_setE]
  exact readR_dmg hv h13 (by rw [List.length_set]) hk (badB_set hk (bad_swap (hv.ok k hk) hj hx)) (fun i hi => nth_setN (by omega) _)
theorem chkP_inj2 {a : List UInt8} {i k : Nat} (hi : i ≤ 1300) (hk : k ≤ 1300) (h : chkP a i = chkP a k) : i = k := by
  have ha := chkN_range a i
  have hb := chkN_range a k
  unfold chkP at h
  injection h with h1 h2
  injection h2 with h2 _
  have h1 := congrArg UInt8.toNat h1
  have h2 := congrArg UInt8.toNat h2
  rw [UInt8.toNat_ofNat', UInt8.toNat_ofNat'] at h1 h2
  have h3 : chkN a i = chkN a k := by omega
  unfold chkN at h3
  generalize weighP (a.take 30) 65521 = W at h3
  omega
/-- blocks i and k, exchanged in their first n bytes -/
def swV (v : List Bk) (i k n : Nat) : List Bk := (v.set i ((nth v i).cpz (nth v k) n)).set k ((nth v k).cpz (nth v i) n)
theorem swV_len (v : List Bk) (i k n : Nat) : (swV v i k n).length = v.length := by unfold swV; rw [List.length_set, List.length_set]
theorem swV_zero {v : List Bk} {i k : Nat} (hi : i < v.length) (hk : k < v.length) : swV v i k 0 = v := by
  unfold swV
  rw [cpz_zero, cpz_zero, set_self hi, set_self hk]
theorem put_put (b : Bk) (j : Nat) (x y : UInt8) : (b.put j x).put j y = b.put j y := Bk.ext' (List.set_set ..)
theorem swV_succ {v : List Bk} {i k n : Nat} (hi : i < v.length) (hk : k < v.length) (hn : n < 32) : ((bytesP (swV v i k n)).set (32 * i + n) (nth (nth v k).l n)).set (32 * k + n) (nth (nth v i).l n) = bytesP (swV v i k (n + 1)) := by
  rw [bytesP_put _ _ i n (by rw [swV_len]; exact hi) hn, bytesP_put _ _ k n (by rw [List.length_set, swV_len]; exact hk) hn]
  congr 1
  by_cases e : i = k
  · subst e
    have hA : ∀ m, swV v i i m = v.set i ((nth v i).cpz (nth v i) m) := fun m => by unfold swV; rw [set_setE]
    rw [hA, hA, nth_setE hi, set_setE, cpz_succ _ _ hn, set_setE, set_setE, nth_setE hi, ← cpz_succ _ _ hn, put_put]
  · unfold swV
    rw [nth_setN (fun h => e h) _, nth_setE hi, cpz_succ _ _ hn, List.set_comm ((nth v k).cpz (nth v i) n) _ (fun h => e h.symm), set_setE, set_setE, nth_setE (show k < (v.set i ((nth v i).cpz (nth v k) (n + 1))).length by rw [List.length_set]; exact hk), cpz_succ _ _ hn]
theorem readR_blocks {v : List Bk} (hv : GoodV v) (h13 : v.length ≤ 1300) {i k : Nat} (hi : i < v.length) (hk : k < v.length) (hne : i ≠ k) : readR (bytesP (swV v i k 32)) = ([], ((min i k : Nat) : Int), 121) := by
  have hU : nth (swV v i k 32) i = nth v k := by unfold swV; rw [nth_setN (fun h => hne h), nth_setE hi, cpz_full]
  have hU2 : nth (swV v i k 32) k = nth v i := by unfold swV; rw [nth_setE (by rw [List.length_set]; exact hk), cpz_full]
  have ho : ∀ j, j ≠ i → j ≠ k → nth (swV v i k 32) j = nth v j := fun j h1 h2 => by unfold swV; rw [nth_setN h2, nth_setN h1]
  have hb : ∀ a b, a < v.length → b < v.length → a ≠ b → nth (swV v i k 32) a = nth v b → badB (swV v i k 32) a = true := fun a b ha hb hab e => by
    unfold badB
    rw [e, hv.ok b hb, decide_eq_false (fun h => hab (chkP_inj2 (by omega) (by omega) h.symm))]; rfl
  refine readR_dmg hv h13 (swV_len ..) (by omega) ?_ (fun j hj => ho j (by omega) (by omega))
  rcases Nat.lt_or_gt_of_ne hne with h | h
  · rw [Nat.min_eq_left (Nat.le_of_lt h)]; exact hb i k hi hk hne hU
  · rw [Nat.min_eq_right (Nat.le_of_lt h)]; exact hb k i hk hi (fun e => hne e.symm) hU2

end Go.Proofs.YtjdcpnaocjddoaaGreatDoor
namespace Go.Proofs.YtjdcpnaocjddoaaGreatDoor
open Go Go.RowKit Go.Proofs.Tryz
/-! ### text in pieces -/
def pcs (c : UInt8) : List UInt8 → List (List UInt8)
  | [] => [[]]
  | x :: r => if x = c then [] :: pcs c r else (x :: (pcs c r).headD []) :: (pcs c r).tail
theorem pcs_ne (c : UInt8) : ∀ t : List UInt8, pcs c t ≠ []
  | [] => by unfold pcs; simp
  | x :: r => by unfold pcs; split <;> simp
theorem pcs_cut (c : UInt8) : ∀ (n : Nat) (t : List UInt8), n < t.length → (∀ k, k < n → nth t k ≠ c) → nth t n = c → pcs c t = t.take n :: pcs c (t.drop (n + 1))
  | _, [], h, _, _ => absurd h (Nat.not_lt_zero _)
  | 0, x :: r, _, _, h => by
    have e : x = c := h
    conv => lhs; unfold pcs
    rw [if_pos e]; rfl
  | n + 1, x :: r, hl, hn, h => by
    have e : x ≠ c := hn 0 (Nat.succ_pos n)
    have ih := pcs_cut c n r (by simpa using hl) (fun k hk => hn (k + 1) (Nat.succ_lt_succ hk)) h
    conv => lhs; unfold pcs
    rw [if_neg e, ih]; rfl
theorem pcs_one (c : UInt8) : ∀ (t : List UInt8), (∀ k, k < t.length → nth t k ≠ c) → pcs c t = [t]
  | [], _ => rfl
  | x :: r, h => by
    have e : x ≠ c := h 0 (Nat.succ_pos _)
    have ih := pcs_one c r (fun k hk => h (k + 1) (Nat.succ_lt_succ hk))
    unfold pcs
    rw [if_neg e, ih]; rfl
/-- pieces of s that end ahead of f are done -/
structure PcsI (c : UInt8) (s : List UInt8) (ws : List (List UInt8)) (f i : Nat) : Prop where
  fi : f ≤ i
  eq : pcs c s = ws ++ pcs c (s.drop f)
  no : ∀ k, f ≤ k → k < i → nth s k ≠ c
theorem PcsI.nil (c : UInt8) (s : List UInt8) : PcsI c s [] 0 0 := ⟨Nat.le_refl _, rfl, fun _k _ h => absurd h (Nat.not_lt_zero _)⟩
theorem PcsI.next {c : UInt8} {s : List UInt8} {ws : List (List UInt8)} {f i : Nat} (h : PcsI c s ws f i) (hc : nth s i ≠ c) : PcsI c s ws f (i + 1) :=
  ⟨Nat.le_succ_of_le h.fi, h.eq, fun k h1 h2 => by
    by_cases e : k = i
    · rw [e]; exact hc
    · exact h.no k h1 (by omega)⟩
theorem PcsI.cut {c : UInt8} {s : List UInt8} {ws : List (List UInt8)} {f i : Nat} (h : PcsI c s ws f i) (hi : i < s.length) (hc : nth s i = c) : PcsI c s (ws ++ [(s.drop f).take (i - f)]) (i + 1) (i + 1) := by
  have hf := h.fi
  refine ⟨Nat.le_refl _, ?_, fun k h1 h2 => by omega⟩
  have e := pcs_cut c (i - f) (s.drop f) (by rw [List.length_drop]; omega) (fun k hk => by rw [nth_drop]; exact h.no (f + k) (by omega) (by omega)) (by rw [nth_drop, show f + (i - f) = i by omega]; exact hc)
  rw [h.eq, e, List.drop_drop, List.append_assoc, show f + (i - f + 1) = i + 1 by omega]; rfl
theorem PcsI.last {c : UInt8} {s : List UInt8} {ws : List (List UInt8)} {f : Nat} (h : PcsI c s ws f s.length) : pcs c s = ws ++ [s.drop f] := by
  have e := pcs_one c (s.drop f) (fun k hk => by
    rw [List.length_drop] at hk
    rw [nth_drop]; exact h.no (f + k) (by omega) (by omega))
  rw [h.eq, e]
theorem pcs_len (c : UInt8) : ∀ t : List UInt8, (pcs c t).length ≤ t.length + 1
  | [] => Nat.le_refl _
  | x :: r => by
    have ih := pcs_len c r
    unfold pcs
    split
    · rw [List.length_cons, List.length_cons]; omega
    · rw [List.length_cons, List.length_tail, List.length_cons]; omega
def WdI (s : List UInt8) (ws : List (List UInt8)) (f i : Nat) : Prop := (i ≤ s.length ∧ PcsI 32 s ws f i) ∨ (i = s.length + 1 ∧ ws = pcs 32 s)
theorem WdI.at_ {s : List UInt8} {ws : List (List UInt8)} {f i : Nat} (h : WdI s ws f i) (hi : i ≤ s.length) : PcsI 32 s ws f i := by
  rcases h with h | h
  · exact h.2
  · omega
theorem WdI.end_ {s : List UInt8} {ws : List (List UInt8)} {f i : Nat} (h : WdI s ws f i) (hi : ¬ i ≤ s.length) : ws = pcs 32 s := by
  rcases h with h | h
  · omega
  · exact h.2
theorem WdI.cut {s : List UInt8} {ws : List (List UInt8)} {f i : Nat} (h : WdI s ws f i) (hi : i ≤ s.length) (hc : i = s.length ∨ nth s i = 32) : WdI s (ws ++ [(s.drop f).take (i - f)]) (i + 1) (i + 1) := by
  have h9 := h.at_ hi
  by_cases e : i = s.length
  · refine .inr ⟨by omega, ?_⟩
    subst e
    rw [h9.last, List.take_of_length_le (by rw [List.length_drop]; exact Nat.le_refl _)]
  · exact .inl ⟨by omega, h9.cut (by omega) (hc.resolve_left e)⟩
theorem WdI.next {s : List UInt8} {ws : List (List UInt8)} {f i : Nat} (h : WdI s ws f i) (hi : i ≤ s.length) (hc : ¬ (i = s.length ∨ nth s i = 32)) : WdI s ws f (i + 1) :=
  .inl ⟨by omega, (h.at_ hi).next (fun e => hc (.inr e))⟩
/-- the lines of a text -/
def linesP (s : List UInt8) : List (List UInt8) := (pcs 10 s).dropLast
def linesR (s : List UInt8) : List (List UInt8) × Int :=
  if 120000 < s.length then ([], 5) else if s ≠ [] ∧ nth s (s.length - 1) ≠ 10 then ([], 120) else if 200 < (linesP s).length then ([], 5) else (linesP s, 0)
/-! ### digits -/
def isDg (c : UInt8) : Bool := decide (48 ≤ (c.toNat : Int) ∧ (c.toNat : Int) ≤ 57)
/-- the number that the first digits (n at most) spell, behind v -/
def digV : Nat → Int → List UInt8 → Int
  | 0, v, _ => v
  | _, v, [] => v
  | n + 1, v, c :: r => if isDg c then digV n (10 * v + ((c.toNat : Int) - 48)) r else v
end Go.Proofs.YtjdcpnaocjddoaaGreatDoor
namespace Go.Proofs.YtjdcpnaocjddoaaGreatDoor
open Go Go.RowKit Go.Proofs.Tryz
/-- what Checked returns -/
def chkdP (s : List UInt8) : Int := if ¬ (3 ≤ s.length ∧ s.length ≤ 600) ∨ nth s (s.length - 3) ≠ 32 then 4 else if sealP (s.take (s.length - 3) ++ [32]) ≠ s ++ [10] then 121 else 0

end Go.Proofs.YtjdcpnaocjddoaaGreatDoor
namespace Go.Proofs.YtjdcpnaocjddoaaGreatDoor
open Go Go.RowKit Go.Proofs.Tryz
end Go.Proofs.YtjdcpnaocjddoaaGreatDoor
namespace Go.Proofs.YtjdcpnaocjddoaaGreatDoor
open Go Go.RowKit Go.Proofs.Tryz
end Go.Proofs.YtjdcpnaocjddoaaGreatDoor
