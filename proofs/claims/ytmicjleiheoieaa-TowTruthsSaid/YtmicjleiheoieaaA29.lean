/-
  The law TowTruths returns true. Conditions: none.
-/
import Derived.Test.YtmicjleiheoieaaA13
import Derived.Test.YtmicjleiheoieaaA28
namespace Go.Proofs.Ytmicjleiheoieaa
open Go Go.RowKit
theorem MeetE_zero {a b : Voy} {n : Nar} (h1 : okVoy a = true) (h2 : okVoy b = true) (h : ¬ MeetE a b n ≠ 0) : okNar n = true ∧ thrE a n = 0 ∧ thrE b n = 0 := by
  have h := Decidable.not_not.1 h
  unfold MeetE at h
  rw [h1, h2] at h
  cases hm : okNar n
  · rw [hm] at h; simp at h
  · rw [hm] at h
    rw [if_pos (by rfl)] at h
    by_cases e : thrE a n = 0
    · rw [if_pos e] at h; exact ⟨rfl, e, h⟩
    · rw [if_neg e] at h; exact absurd h e
theorem MeetOk_false {a b : Voy} {n : Nar} (h : MeetE a b n ≠ 0) : MeetOk a b n = false := by
  cases hh : MeetOk a b n with
  | false => rfl
  | true =>
    exfalso; apply h
    unfold MeetOk at hh
    simp only [Bool.and_eq_true, decide_eq_true_eq] at hh
    obtain ⟨⟨⟨⟨h1, h2⟩, h3⟩, h4⟩, h5⟩ := hh
    unfold MeetE; rw [h1, h2, h3]; simp [h4, h5]
theorem thrS_not {v : Voy} {n : Nar} (h : (thrS v n).there = false) : thrS v n = ⟨⟨0, 0⟩, ⟨0, 0⟩, false⟩ := by
  unfold thrS at h ⊢; split at h
  · cases h
  · rename_i hc; rw [if_neg hc]
theorem thrS_is {v : Voy} {n : Nar} (h : (thrS v n).there = true) : thrS v n = ⟨arr v (entP v n), arr v (leaP v n), true⟩ ∧ onWay v [entP v n] = true ∧ onWay v [leaP v n] = true := by
  unfold thrS at h ⊢; split at h
  · rename_i hc
    rw [if_pos hc]
    have h2 := (Bool.and_eq_true_iff.1 hc).2
    refine ⟨rfl, ?_⟩
    simp [onWay] at h2 ⊢
    omega
  · cases h
theorem way_lt {v : Voy} (hk : okVoy v = true) : (nth v.runs 0).to < (nth v.runs 0).frm ↔ lst v < frst v := by
  have hp := (okVoy_rng hk).pos
  have h1 := way0_eq hp
  have h2 := frst_eq hp
  unfold sgn at h1
  rcases way0_cases hk with ⟨e, e1⟩ | ⟨e, e1⟩
  · rw [e] at h1; split at h1 <;> omega
  · rw [e] at h1; split at h1 <;> omega
theorem entlea_rng {v : Voy} {n : Nar} (hk : okVoy v = true) (hm : okNar n = true) : (-10000000 ≤ entP v n ∧ entP v n ≤ 10000000) ∧ (-10000000 ≤ leaP v n ∧ leaP v n ≤ 10000000) := by
  have h1 := okNar_rng hm
  have h2 := (okVoy_rng hk).len
  have h3 := h1.frm
  have h4 := h1.to
  have h5 : 0 ≤ tail v ∧ tail v ≤ 1001 := by unfold tail; omega
  unfold entP leaP
  constructor <;> split <;> omega

theorem own12 : Own Try.prog 12 := ⟨Try.f12, Try.func12, by kernel_rfl, by kernel_rfl⟩

set_option maxHeartbeats 4000000 in
theorem TowTruths_c (va : Voy) (ao1 : Option Addr) (b1 o1 cap1 : Nat) (vb : Voy) (ao2 : Option Addr) (b2 o2 cap2 : Nat) (n : Nar) (s0 : Int) (tp0 tw0 : List Int) (ap0 : Option Addr) (bp0 op0 cp0 : Nat) (aw0 : Option Addr) (bw0 ow0 cw0 : Nat) (s1 : Int) (tp1 tw1 : List Int) (ap1 : Option Addr) (bp1 op1 cp1 : Nat) (aw1 : Option Addr) (bw1 ow1 cw1 : Nat) (w0 : World) (hs1 : Sl encRun 6 w0 ao1 b1 o1 va.runs) (hs2 : Sl encRun 6 w0 ao2 b2 o2 vb.runs) (hq0 : 0 ≤ s0 ∧ s0 ≤ 255) (hp0 : Sl encU8 1 w0 ap0 bp0 op0 tp0) (hw0 : Sl encU8 1 w0 aw0 bw0 ow0 tw0) (hT0 : RT tp0 tw0) (hpl0 : tp0.length ≤ 9223372036854775807) (hwl0 : tw0.length ≤ 9223372036854775807) (hq1 : 0 ≤ s1 ∧ s1 ≤ 255) (hp1 : Sl encU8 1 w0 ap1 bp1 op1 tp1) (hw1 : Sl encU8 1 w0 aw1 bw1 ow1 tw1) (hT1 : RT tp1 tw1) (hpl1 : tp1.length ≤ 9223372036854775807) (hwl1 : tw1.length ≤ 9223372036854775807) :
    CallsV Try.prog 12 [.agg #[.int .i64 va.st.lo, .int .i64 va.st.hi, .slice ao1 ((va.runs).length) cap1, .int .i64 va.len, .int .i64 va.wid, .int .i64 vb.st.lo, .int .i64 vb.st.hi, .slice ao2 ((vb.runs).length) cap2, .int .i64 vb.len, .int .i64 vb.wid], .agg #[.int .i64 n.frm, .int .i64 n.to, .int .i64 n.wid, .bool n.single], .agg #[.int .u8 s0, .slice ap0 tp0.length cp0, .slice aw0 tw0.length cw0, .int .u8 s1, .slice ap1 tp1.length cp1, .slice aw1 tw1.length cw1]] w0 (fun x w' => x = .bool true ∧ Ext w0 w') := by
 have E0 := Upd.refl (fun _ => False) w0
 refine f_enter (N := 243) Try.func12 rfl rfl rfl ?_
 change WC _ _ _ _ _ _ [(0, .agg #[.int .i64 va.st.lo, .int .i64 va.st.hi, .slice ao1 ((va.runs).length) cap1, .int .i64 va.len, .int .i64 va.wid, .int .i64 vb.st.lo, .int .i64 vb.st.hi, .slice ao2 ((vb.runs).length) cap2, .int .i64 vb.len, .int .i64 vb.wid]), (1, .agg #[.int .i64 n.frm, .int .i64 n.to, .int .i64 n.wid, .bool n.single]), (2, .agg #[.int .u8 s0, .slice ap0 tp0.length cp0, .slice aw0 tw0.length cw0, .int .u8 s1, .slice ap1 tp1.length cp1, .slice aw1 tw1.length cw1])] _
 refine c_seq fun K1 hK1 => (c_region (t_box (cs := [.int .i64 va.st.lo, .int .i64 va.st.hi, .slice ao1 ((va.runs).length) cap1, .int .i64 va.len, .int .i64 va.wid, .int .i64 vb.st.lo, .int .i64 vb.st.hi, .slice ao2 ((vb.runs).length) cap2, .int .i64 vb.len, .int .i64 vb.wid]) rfl rfl rfl rfl (fun bk2 w3 ebk2 sbk2 B4 u5 => ?_)))
 have zu5 := u5.size
 have E6 := E0.next u5 (fun _ _ h => h.elim)
 refine t_box (cs := [.int .i64 n.frm, .int .i64 n.to, .int .i64 n.wid, .bool n.single]) rfl rfl rfl rfl (fun bk7 w8 ebk7 sbk7 B9 u10 => ?_)
 have zu10 := u10.size
 have E11 := E6.next u10 (fun _ _ h => h.elim)
 refine t_box (cs := [.int .u8 s0, .slice ap0 tp0.length cp0, .slice aw0 tw0.length cw0, .int .u8 s1, .slice ap1 tp1.length cp1, .slice aw1 tw1.length cw1]) rfl rfl rfl rfl (fun bk12 w13 ebk12 sbk12 B14 u15 => ?_)
 have zu15 := u15.size
 have E16 := E11.next u15 (fun _ _ h => h.elim)
 refine t_assign rfl rfl rfl (t_nil' (hK1 _ _ (c_seq fun K17 hK17 => (c_seq fun K18 hK18 => (c_region (t_indexArr (j := 0) (0) Try.underlying94 Try.sizeOf48 rfl rfl rfl rfl rfl (by decide) rfl ?_))))))
 have B19 := ((B4.keep u10 (fun h => h)).keep u15 (fun h => h))
 refine t_loadN (vs := [.int .i64 va.st.lo, .int .i64 va.st.hi, .slice ao1 ((va.runs).length) cap1, .int .i64 va.len, .int .i64 va.wid]) Try.isAgg48 Try.sizeOf48 rfl rfl rfl (B19.at.sub 0 5) rfl (t_call (vs := [.agg #[.int .i64 va.st.lo, .int .i64 va.st.hi, .slice ao1 ((va.runs).length) cap1, .int .i64 va.len, .int .i64 va.wid]]) own35 rfl rfl rfl rfl (sound_c va ao1 b1 o1 cap1 _ (hs1.keep E16 (fun _ h => h))) (fun v20 w21 r23 => ?_))
 obtain ⟨rfl, u22⟩ := r23
 have zu22 := u22.size
 have E24 := E16.next u22 (fun _ _ h => h.elim)
 refine t_not rfl rfl rfl (t_move rfl rfl rfl (t_split 27 rfl (fun g27 => ?_) (fun g27 => ?_)))
 ·
  refine t_skip rfl rfl rfl (t_skip rfl rfl rfl (t_skip rfl rfl rfl (t_skip rfl rfl rfl (t_pick_t rfl rfl rfl rfl (t_nil' (hK18 _ _ (c_cond_t rfl (c_seq fun K25 hK25 => (c_region (t_call (vs := []) own16 rfl rfl rfl rfl (known_c _) (fun v26 w27 r29 => ?_)))))))))))
  obtain ⟨rfl, u28⟩ := r29
  have zu28 := u28.size
  have E30 := E24.next u28 (fun _ _ h => h.elim)
  refine t_assign rfl rfl rfl (t_nil' (hK25 _ _ (c_ret (f_ret1 (v := .bool true) Try.results12 rfl ?_))))
  exact ⟨rfl, E30⟩
 ·
  have hk1 : okVoy va = true := by simpa using g27
  refine t_indexArr (j := 1) (5) Try.underlying94 Try.sizeOf48 rfl rfl rfl rfl rfl (by decide) rfl ?_
  have B31 := (B19.keep u22 (fun h => h))
  refine t_loadN (vs := [.int .i64 vb.st.lo, .int .i64 vb.st.hi, .slice ao2 ((vb.runs).length) cap2, .int .i64 vb.len, .int .i64 vb.wid]) Try.isAgg48 Try.sizeOf48 rfl rfl rfl (B31.at.sub 5 5) rfl (t_call (vs := [.agg #[.int .i64 vb.st.lo, .int .i64 vb.st.hi, .slice ao2 ((vb.runs).length) cap2, .int .i64 vb.len, .int .i64 vb.wid]]) own35 rfl rfl rfl rfl (sound_c vb ao2 b2 o2 cap2 _ (hs2.keep E24 (fun _ h => h))) (fun v32 w33 r35 => ?_))
  obtain ⟨rfl, u34⟩ := r35
  have zu34 := u34.size
  have E36 := E24.next u34 (fun _ _ h => h.elim)
  refine t_not rfl rfl rfl (t_pick_f rfl rfl rfl rfl (t_nil' (hK18 _ _ (c_cond rfl (fun g32 => ?_) (fun g32 => ?_)))))
  ·
   refine c_seq fun K37 hK37 => (c_region (t_call (vs := []) own16 rfl rfl rfl rfl (known_c _) (fun v38 w39 r41 => ?_)))
   obtain ⟨rfl, u40⟩ := r41
   have zu40 := u40.size
   have E42 := E36.next u40 (fun _ _ h => h.elim)
   refine t_assign rfl rfl rfl (t_nil' (hK37 _ _ (c_ret (f_ret1 (v := .bool true) Try.results12 rfl ?_))))
   exact ⟨rfl, E42⟩
  ·
   have hk2 : okVoy vb = true := by simpa using g32
   have hv1 := okVoy_rng hk1
   have hv2 := okVoy_rng hk2
   have hf1 := hv1.few
   have hf2 := hv2.few
   have hpo1 := hv1.pos
   have hpo2 := hv2.pos
   have hl1 := hv1.len
   have hl2 := hv2.len
   refine c_skip (hK17 _ _ (c_seq fun K43 hK43 => ?_))
   have B44 := (B31.keep u34 (fun h => h))
   have B45 := (((B9.keep u15 (fun h => h)).keep u22 (fun h => h)).keep u34 (fun h => h))
   refine WC.weak [(3, .pointer (some ⟨bk2, 0, none⟩)), (4, .pointer (some ⟨bk7, 0, none⟩)), (5, .pointer (some ⟨bk12, 0, none⟩)), (6, .bool false)] ⟨rfl, rfl, rfl, rfl, trivial⟩ (c_drawn follows 15 [some (35, some (.pointer (some ⟨bk2, 0, none⟩))), some (36, some (.agg #[.int .i64 va.st.lo, .int .i64 va.st.hi, .slice ao1 ((va.runs).length) cap1, .int .i64 va.len, .int .i64 va.wid])), some (37, none), some (38, some (.pointer (some ⟨bk2, 5, none⟩))), some (39, some (.agg #[.int .i64 vb.st.lo, .int .i64 vb.st.hi, .slice ao2 ((vb.runs).length) cap2, .int .i64 vb.len, .int .i64 vb.wid])), some (40, none), some (41, some (.agg #[.int .i64 n.frm, .int .i64 n.to, .int .i64 n.wid, .bool n.single])), some (42, some (.tuple #[.bool (MeetOk va vb n && mayB (thrS va n) (thrS vb n)), .bool (MeetOk va vb n && mustB (thrS va n) (thrS vb n)), .int .i64 (MeetE va vb n)])), some (34, some (.tuple #[.bool (MeetOk va vb n && mayB (thrS va n) (thrS vb n)), .bool (MeetOk va vb n && mustB (thrS va n) (thrS vb n)), .int .i64 (MeetE va vb n)])), some (43, some (.bool (MeetOk va vb n && mayB (thrS va n) (thrS vb n)))), some (44, some (.bool (MeetOk va vb n && mustB (thrS va n) (thrS vb n)))), some (45, some (.int .i64 (MeetE va vb n))), some (7, some (.bool (MeetOk va vb n && mayB (thrS va n) (thrS vb n)))), some (8, some (.bool (MeetOk va vb n && mustB (thrS va n) (thrS vb n)))), some (9, some (.int .i64 (MeetE va vb n)))] [[],[0],[1],[],[3],[4,2],[],[2,5,6,5],[7],[8],[8],[8],[9,7,0,1,2,3,4,5,6,7,8,9],[10,12,0,1,2,3,4,5,6,7,8,9,10,12],[11,13,0,1,2,3,4,5,6,7,8,9,10,11,12,13]] (fun D ρ w => Upd (fun _ => False) w33 w ∧ (D 2 = true → ∃ aoC46 bC46 cpC46, ρ 2 = .agg #[.int .i64 va.st.lo, .int .i64 va.st.hi, .slice aoC46 ((va.runs).length) cpC46, .int .i64 va.len, .int .i64 va.wid] ∧ (D 7 = false → (Sl encRun 6 w aoC46 bC46 0 va.runs ∧ w33.heap.size ≤ bC46))) ∧ (D 5 = true → ∃ aoC53 bC53 cpC53, ρ 5 = .agg #[.int .i64 vb.st.lo, .int .i64 vb.st.hi, .slice aoC53 ((vb.runs).length) cpC53, .int .i64 vb.len, .int .i64 vb.wid] ∧ (D 7 = false → (Sl encRun 6 w aoC53 bC53 0 vb.runs ∧ w33.heap.size ≤ bC53)))) rfl rfl rfl (by kernel_rfl) (by kernel_rfl) ⟨(Upd.drew _).to, (fun h => by cases h), (fun h => by cases h)⟩ ⟨?_, ?_, ?_, ?_, ?_, ?_, ?_, ?_, ?_, ?_, ?_, ?_, ?_, ?_, ?_, trivial⟩ ?_)
   ·
    intro D ρ w66 hcD hnD hdD hW
    obtain ⟨u67, F68, F69⟩ := hW
    have zu67 := u67.size
    refine ⟨[(3, .pointer (some ⟨bk2, 0, none⟩))], ⟨fo rfl rfl, trivial⟩, fun Lr => ?_⟩
    show WL _ _ _ _ _ _ _ ((3, .pointer (some ⟨bk2, 0, none⟩)) :: Lr) _
    refine t_indexArr (j := 0) (0) Try.underlying94 Try.sizeOf48 rfl rfl rfl rfl rfl (by decide) rfl ?_
    exact dz rfl ⟨u67, F68, F69⟩
   ·
    intro D ρ w71 hcD hnD hdD hW
    obtain ⟨u72, F73, F74⟩ := hW
    have zu72 := u72.size
    refine ⟨[(35, .pointer (some ⟨bk2, 0, none⟩))], ⟨fi 0 rfl rfl rfl, trivial⟩, fun Lr => ?_⟩
    show WL _ _ _ _ _ _ _ ((35, .pointer (some ⟨bk2, 0, none⟩)) :: Lr) _
    have B76 := (B44.keep u72 (fun h => h))
    refine t_loadN (vs := [.int .i64 va.st.lo, .int .i64 va.st.hi, .slice ao1 ((va.runs).length) cap1, .int .i64 va.len, .int .i64 va.wid]) Try.isAgg48 Try.sizeOf48 rfl rfl rfl (B76.at.sub 0 5) rfl ?_
    exact dz rfl ⟨u72, F73, F74⟩
   ·
    intro D ρ w77 hcD hnD hdD hW
    obtain ⟨u78, F79, F80⟩ := hW
    have zu78 := u78.size
    have E81 := E36.next u78 (fun _ _ h => h.elim)
    refine ⟨[(36, .agg #[.int .i64 va.st.lo, .int .i64 va.st.hi, .slice ao1 ((va.runs).length) cap1, .int .i64 va.len, .int .i64 va.wid])], ⟨fi 1 rfl rfl rfl, trivial⟩, fun Lr => ?_⟩
    show WL _ _ _ _ _ _ _ ((36, .agg #[.int .i64 va.st.lo, .int .i64 va.st.hi, .slice ao1 ((va.runs).length) cap1, .int .i64 va.len, .int .i64 va.wid]) :: Lr) _
    refine t_call (vs := [.agg #[.int .i64 va.st.lo, .int .i64 va.st.hi, .slice ao1 ((va.runs).length) cap1, .int .i64 va.len, .int .i64 va.wid]]) own28 rfl rfl rfl rfl (copied_c va ao1 b1 o1 cap1 _ (hs1.keep E81 (fun _ h => h)) (by omega)) (fun v83 w84 r86 => ?_)
    obtain ⟨⟨aoC82, bC82, cpC82, rfl, hC82, gebC82⟩, u85⟩ := r86
    have zu85 := u85.size
    exact dzn rfl ⟨(u78.next u85 (fun _ _ h => h.elim)), (fun _ => ⟨aoC82, bC82, cpC82, rfl, fun _ => ⟨hC82, by omega⟩⟩), (fun h => by obtain ⟨aoC53, bC53, cpC53, e, hB⟩ := F80 h; exact ⟨aoC53, bC53, cpC53, e, fun h2 => ⟨((hB h2).1.keep u85 (fun _ h => h)), (hB h2).2⟩⟩)⟩
   ·
    intro D ρ w88 hcD hnD hdD hW
    obtain ⟨u89, F90, F91⟩ := hW
    have zu89 := u89.size
    refine ⟨[(3, .pointer (some ⟨bk2, 0, none⟩))], ⟨fo rfl rfl, trivial⟩, fun Lr => ?_⟩
    show WL _ _ _ _ _ _ _ ((3, .pointer (some ⟨bk2, 0, none⟩)) :: Lr) _
    refine t_indexArr (j := 1) (5) Try.underlying94 Try.sizeOf48 rfl rfl rfl rfl rfl (by decide) rfl ?_
    exact dz rfl ⟨u89, F90, F91⟩
   ·
    intro D ρ w93 hcD hnD hdD hW
    obtain ⟨u94, F95, F96⟩ := hW
    have zu94 := u94.size
    refine ⟨[(38, .pointer (some ⟨bk2, 5, none⟩))], ⟨fi 3 rfl rfl rfl, trivial⟩, fun Lr => ?_⟩
    show WL _ _ _ _ _ _ _ ((38, .pointer (some ⟨bk2, 5, none⟩)) :: Lr) _
    have B98 := (B44.keep u94 (fun h => h))
    refine t_loadN (vs := [.int .i64 vb.st.lo, .int .i64 vb.st.hi, .slice ao2 ((vb.runs).length) cap2, .int .i64 vb.len, .int .i64 vb.wid]) Try.isAgg48 Try.sizeOf48 rfl rfl rfl (B98.at.sub 5 5) rfl ?_
    exact dz rfl ⟨u94, F95, F96⟩
   ·
    intro D ρ w99 hcD hnD hdD hW
    obtain ⟨u100, F101, F102⟩ := hW
    have zu100 := u100.size
    have E103 := E36.next u100 (fun _ _ h => h.elim)
    refine ⟨[(39, .agg #[.int .i64 vb.st.lo, .int .i64 vb.st.hi, .slice ao2 ((vb.runs).length) cap2, .int .i64 vb.len, .int .i64 vb.wid])], ⟨fi 4 rfl rfl rfl, trivial⟩, fun Lr => ?_⟩
    show WL _ _ _ _ _ _ _ ((39, .agg #[.int .i64 vb.st.lo, .int .i64 vb.st.hi, .slice ao2 ((vb.runs).length) cap2, .int .i64 vb.len, .int .i64 vb.wid]) :: Lr) _
    refine t_call (vs := [.agg #[.int .i64 vb.st.lo, .int .i64 vb.st.hi, .slice ao2 ((vb.runs).length) cap2, .int .i64 vb.len, .int .i64 vb.wid]]) own28 rfl rfl rfl rfl (copied_c vb ao2 b2 o2 cap2 _ (hs2.keep E103 (fun _ h => h)) (by omega)) (fun v105 w106 r108 => ?_)
    obtain ⟨⟨aoC104, bC104, cpC104, rfl, hC104, gebC104⟩, u107⟩ := r108
    have zu107 := u107.size
    exact dzn rfl ⟨(u100.next u107 (fun _ _ h => h.elim)), (fun h => by obtain ⟨aoC46, bC46, cpC46, e, hB⟩ := F101 h; exact ⟨aoC46, bC46, cpC46, e, fun h2 => ⟨((hB h2).1.keep u107 (fun _ h => h)), (hB h2).2⟩⟩), (fun _ => ⟨aoC104, bC104, cpC104, rfl, fun _ => ⟨hC104, by omega⟩⟩)⟩
   ·
    intro D ρ w110 hcD hnD hdD hW
    obtain ⟨u111, F112, F113⟩ := hW
    have zu111 := u111.size
    refine ⟨[(4, .pointer (some ⟨bk7, 0, none⟩))], ⟨fo rfl rfl, trivial⟩, fun Lr => ?_⟩
    show WL _ _ _ _ _ _ _ ((4, .pointer (some ⟨bk7, 0, none⟩)) :: Lr) _
    have B115 := (B45.keep u111 (fun h => h))
    refine t_loadN (vs := [.int .i64 n.frm, .int .i64 n.to, .int .i64 n.wid, .bool n.single]) Try.isAgg72 Try.sizeOf72 rfl rfl rfl (B115.at.sub 0 4) rfl ?_
    exact dz rfl ⟨u111, F112, F113⟩
   ·
    intro D ρ w116 hcD hnD hdD hW
    obtain ⟨u117, F118, F119⟩ := hW
    have zu117 := u117.size
    obtain ⟨aoC46, bC46, cpC46, e121, H122⟩ := F118 (hdD 2 rfl)
    have H123 := H122 hnD
    have hsH123 := H123.1
    have hgH123 := H123.2
    obtain ⟨aoC53, bC53, cpC53, e124, H125⟩ := F119 (hdD 5 rfl)
    have H126 := H125 hnD
    have hsH126 := H126.1
    have hgH126 := H126.2
    refine ⟨[(37, .agg #[.int .i64 va.st.lo, .int .i64 va.st.hi, .slice aoC46 ((va.runs).length) cpC46, .int .i64 va.len, .int .i64 va.wid]), (40, .agg #[.int .i64 vb.st.lo, .int .i64 vb.st.hi, .slice aoC53 ((vb.runs).length) cpC53, .int .i64 vb.len, .int .i64 vb.wid]), (41, .agg #[.int .i64 n.frm, .int .i64 n.to, .int .i64 n.wid, .bool n.single])], ⟨fi 2 rfl rfl e121.symm, fi 5 rfl rfl e124.symm, fi 6 rfl rfl rfl, trivial⟩, fun Lr => ?_⟩
    show WL _ _ _ _ _ _ _ ((37, .agg #[.int .i64 va.st.lo, .int .i64 va.st.hi, .slice aoC46 ((va.runs).length) cpC46, .int .i64 va.len, .int .i64 va.wid]) :: (40, .agg #[.int .i64 vb.st.lo, .int .i64 vb.st.hi, .slice aoC53 ((vb.runs).length) cpC53, .int .i64 vb.len, .int .i64 vb.wid]) :: (41, .agg #[.int .i64 n.frm, .int .i64 n.to, .int .i64 n.wid, .bool n.single]) :: Lr) _
    refine t_call (vs := [.agg #[.int .i64 va.st.lo, .int .i64 va.st.hi, .slice aoC46 ((va.runs).length) cpC46, .int .i64 va.len, .int .i64 va.wid], .agg #[.int .i64 vb.st.lo, .int .i64 vb.st.hi, .slice aoC53 ((vb.runs).length) cpC53, .int .i64 vb.len, .int .i64 vb.wid], .agg #[.int .i64 n.frm, .int .i64 n.to, .int .i64 n.wid, .bool n.single]]) own41 rfl rfl rfl rfl (Meet_c va aoC46 bC46 0 cpC46 vb aoC53 bC53 0 cpC53 n _ hsH123 hsH126 (by omega) (by omega)) (fun v127 w128 r130 => ?_)
    obtain ⟨rfl, u129⟩ := r130
    have zu129 := u129.size
    exact dz rfl ⟨(u117.next u129 (fun _ _ h => h.elim)), (fun h => by obtain ⟨aoC46, bC46, cpC46, e, _⟩ := F118 h; exact ⟨aoC46, bC46, cpC46, e, fun h => by cases h⟩), (fun h => by obtain ⟨aoC53, bC53, cpC53, e, _⟩ := F119 h; exact ⟨aoC53, bC53, cpC53, e, fun h => by cases h⟩)⟩
   · exact fun D ρ w _ _ _ hW => ⟨[(42, .tuple #[.bool (MeetOk va vb n && mayB (thrS va n) (thrS vb n)), .bool (MeetOk va vb n && mustB (thrS va n) (thrS vb n)), .int .i64 (MeetE va vb n)])], ⟨fi 7 rfl rfl rfl, trivial⟩, fun Lr => t_move rfl rfl rfl (dz rfl hW)⟩
   · exact fun D ρ w _ _ _ hW => ⟨[(34, .tuple #[.bool (MeetOk va vb n && mayB (thrS va n) (thrS vb n)), .bool (MeetOk va vb n && mustB (thrS va n) (thrS vb n)), .int .i64 (MeetE va vb n)])], ⟨fi 8 rfl rfl rfl, trivial⟩, fun Lr => t_extract (vs := [.bool (MeetOk va vb n && mayB (thrS va n) (thrS vb n)), .bool (MeetOk va vb n && mustB (thrS va n) (thrS vb n)), .int .i64 (MeetE va vb n)]) rfl rfl rfl rfl (dz rfl hW)⟩
   · exact fun D ρ w _ _ _ hW => ⟨[(34, .tuple #[.bool (MeetOk va vb n && mayB (thrS va n) (thrS vb n)), .bool (MeetOk va vb n && mustB (thrS va n) (thrS vb n)), .int .i64 (MeetE va vb n)])], ⟨fi 8 rfl rfl rfl, trivial⟩, fun Lr => t_extract (vs := [.bool (MeetOk va vb n && mayB (thrS va n) (thrS vb n)), .bool (MeetOk va vb n && mustB (thrS va n) (thrS vb n)), .int .i64 (MeetE va vb n)]) rfl rfl rfl rfl (dz rfl hW)⟩
   · exact fun D ρ w _ _ _ hW => ⟨[(34, .tuple #[.bool (MeetOk va vb n && mayB (thrS va n) (thrS vb n)), .bool (MeetOk va vb n && mustB (thrS va n) (thrS vb n)), .int .i64 (MeetE va vb n)])], ⟨fi 8 rfl rfl rfl, trivial⟩, fun Lr => t_extract (vs := [.bool (MeetOk va vb n && mayB (thrS va n) (thrS vb n)), .bool (MeetOk va vb n && mustB (thrS va n) (thrS vb n)), .int .i64 (MeetE va vb n)]) rfl rfl rfl rfl (dz rfl hW)⟩
   · exact fun D ρ w _ _ _ hW => ⟨[(43, .bool (MeetOk va vb n && mayB (thrS va n) (thrS vb n)))], ⟨fi 9 rfl rfl rfl, trivial⟩, fun Lr => t_assign rfl rfl rfl (dz rfl hW)⟩
   · exact fun D ρ w _ _ _ hW => ⟨[(44, .bool (MeetOk va vb n && mustB (thrS va n) (thrS vb n)))], ⟨fi 10 rfl rfl rfl, trivial⟩, fun Lr => t_assign rfl rfl rfl (dz rfl hW)⟩
   · exact fun D ρ w _ _ _ hW => ⟨[(45, .int .i64 (MeetE va vb n))], ⟨fi 11 rfl rfl rfl, trivial⟩, fun Lr => t_assign rfl rfl rfl (dz rfl hW)⟩
   intro ρ w132 hW
   obtain ⟨u133, F134, F135⟩ := hW
   have zu133 := u133.size
   have E136 := E36.next u133 (fun _ _ h => h.elim)
   refine QK.weak [(3, .pointer (some ⟨bk2, 0, none⟩)), (4, .pointer (some ⟨bk7, 0, none⟩)), (5, .pointer (some ⟨bk12, 0, none⟩)), (6, .bool false), (7, .bool (MeetOk va vb n && mayB (thrS va n) (thrS vb n))), (8, .bool (MeetOk va vb n && mustB (thrS va n) (thrS vb n))), (9, .int .i64 (MeetE va vb n))] ⟨rfl, rfl, rfl, rfl, rfl, rfl, rfl, trivial⟩ (hK43 _ _ (c_seq fun K139 hK139 => (c_seq fun K140 hK140 => (c_region (t_move rfl rfl rfl (t_cmp rfl rfl rfl rfl rfl (t_nil' (hK140 _ _ (c_condp rfl (fun g47 => ?_) (fun g47 => ?_))))))))))
   ·
    have hMf := MeetOk_false g47
    refine c_same 7 (v := .bool false) rfl (congrArg Value.bool (by simp [hMf])) (c_same 8 (v := .bool false) rfl (congrArg Value.bool (by simp [hMf])) (c_seq fun K141 hK141 => (c_region (t_move rfl rfl rfl (t_not rfl rfl rfl (t_move rfl rfl rfl (t_move rfl rfl rfl (t_not rfl rfl rfl (t_pick_t rfl rfl rfl rfl (t_move rfl rfl rfl (t_call (vs := []) own16 rfl rfl rfl rfl (known_c _) (fun v142 w143 r145 => ?_))))))))))))
    obtain ⟨rfl, u144⟩ := r145
    have zu144 := u144.size
    have E146 := E136.next u144 (fun _ _ h => h.elim)
    refine t_pick_t rfl rfl rfl rfl (t_assign rfl rfl rfl (t_nil' (hK141 _ _ (c_ret (f_ret1 (v := .bool true) Try.results12 rfl ?_)))))
    exact ⟨rfl, E146⟩
   ·
    obtain ⟨hm, hEa, hEb⟩ := MeetE_zero hk1 hk2 g47
    have hn1 := (okNar_rng hm).frm
    have hn2 := (okNar_rng hm).to
    have ht1 : (va.len + 99) / 100 = tail va ∧ (vb.len + 99) / 100 = tail vb := by unfold tail; rw [show va.len + 100 - 1 = va.len + 99 by omega, show vb.len + 100 - 1 = vb.len + 99 by omega]; exact ⟨rfl, rfl⟩
    have ht2 : (0 ≤ tail va ∧ tail va ≤ 1001) ∧ (0 ≤ tail vb ∧ tail vb ≤ 1001) := by unfold tail; omega
    refine c_skip (hK139 _ _ (c_seq fun K147 hK147 => (c_region (t_build (ps := []) (v := .agg #[.int .i64 0, .int .i64 0]) rfl rfl ⟨rfl, rfl⟩ (fun w => by kernel_rfl) (t_build (ps := []) (v := .agg #[.int .i64 0, .int .i64 0]) rfl rfl ⟨rfl, rfl⟩ (fun w => by kernel_rfl) (t_alloc (cs := [.int .i64 0, .int .i64 0]) Try.zeroValue82 rfl rfl rfl (fun bk148 w149 ebk148 sbk148 B150 u151 => ?_)))))))
    have zu151 := u151.size
    have E152 := E136.next u151 (fun _ _ h => h.elim)
    refine t_alloc (cs := [.int .i64 0, .int .i64 0]) Try.zeroValue82 rfl rfl rfl (fun bk153 w154 ebk153 sbk153 B155 u156 => ?_)
    have zu156 := u156.size
    have E157 := E152.next u156 (fun _ _ h => h.elim)
    have B158 := (B150.keep u156 (fun h => h))
    refine t_store (vs := [.int .i64 0, .int .i64 0]) Try.sizeOf82 rfl rfl rfl B158 rfl rfl (Nat.le_of_ble_eq_true rfl) (by simp [Value.oneCell']) (fun w159 sw159 B161 u160 => ?_)
    have zu160 := u160.size
    have E162 := E157.next u160 (fun i hi (h : i = bk148) => show False by first | omega | assumption)
    have B161 : Blk w159 bk148 82 [.int .i64 0, .int .i64 0] := B161
    have B163 := (B155.keep u160 (show ¬ (bk153 = bk148) by first | omega | assumption))
    refine t_store (vs := [.int .i64 0, .int .i64 0]) Try.sizeOf82 rfl rfl rfl B163 rfl rfl (Nat.le_of_ble_eq_true rfl) (by simp [Value.oneCell']) (fun w164 sw164 B166 u165 => ?_)
    have zu165 := u165.size
    have E167 := E162.next u165 (fun i hi (h : i = bk153) => show False by first | omega | assumption)
    have B166 : Blk w164 bk153 82 [.int .i64 0, .int .i64 0] := B166
    refine t_assign rfl rfl rfl (t_nil' (hK147 _ _ (c_seq fun K168 hK168 => (c_seq fun K169 hK169 => (c_region (t_assign rfl rfl rfl (t_nil' (hK169 _ _ (c_block (c_rounds 3 (WR.weak [(3, .pointer (some ⟨bk2, 0, none⟩)), (4, .pointer (some ⟨bk7, 0, none⟩)), (5, .pointer (some ⟨bk12, 0, none⟩)), (6, .bool false), (7, .bool (MeetOk va vb n && mayB (thrS va n) (thrS vb n))), (8, .bool (MeetOk va vb n && mustB (thrS va n) (thrS vb n))), (10, .pointer (some ⟨bk148, 0, none⟩)), (11, .pointer (some ⟨bk153, 0, none⟩)), (12, .bool true), (13, .int .i64 0)] ⟨rfl, rfl, rfl, rfl, rfl, rfl, rfl, rfl, rfl, rfl, trivial⟩ (r_round fun K170 hK170 => (c_seq fun K171 hK171 => (c_seq fun K172 hK172 => (c_region (t_move rfl rfl rfl (t_cmp rfl rfl rfl rfl rfl (t_samehd (v := .bool true) rfl (t_nil' (hK172 _ _ (c_cond_t rfl (c_skip (hK171 _ _ ?_)))))))))))))))))))))))
    refine c_cut (γ := Unit) (fun _x => [(3, .pointer (some ⟨bk2, 0, none⟩)), (4, .pointer (some ⟨bk7, 0, none⟩)), (5, .pointer (some ⟨bk12, 0, none⟩)), (7, .bool (MeetOk va vb n && mayB (thrS va n) (thrS vb n))), (8, .bool (MeetOk va vb n && mustB (thrS va n) (thrS vb n))), (10, .pointer (some ⟨bk148, 0, none⟩)), (11, .pointer (some ⟨bk153, 0, none⟩)), (12, .bool ((thrS va n).there)), (13, .int .i64 0), (59, .int .i64 0), (60, .bool true)]) (fun _x w => Upd (fun i => i = bk148 ∨ i = bk153) w164 w ∧ Blk w bk148 82 [.int .i64 (if (thrS va n).there = true then (tru va s0 tp0 tw0 (entP va n)) else 0), .int .i64 0] ∧ Blk w bk153 82 [.int .i64 (if (thrS va n).there = true then (tru va s0 tp0 tw0 (leaP va n)) else 0), .int .i64 0]) (fun K174 hK174 => ?_) ?_
    ·
     refine c_block (c_seq fun K177 hK177 => ?_)
     have B178 := (((((B44.keep u133 (fun h => h)).keep u151 (fun h => h)).keep u156 (fun h => h)).keep u160 (show ¬ (bk2 = bk148) by first | omega | assumption)).keep u165 (show ¬ (bk2 = bk153) by first | omega | assumption))
     have B179 := (((((B45.keep u133 (fun h => h)).keep u151 (fun h => h)).keep u156 (fun h => h)).keep u160 (show ¬ (bk7 = bk148) by first | omega | assumption)).keep u165 (show ¬ (bk7 = bk153) by first | omega | assumption))
     refine WC.weak [(3, .pointer (some ⟨bk2, 0, none⟩)), (4, .pointer (some ⟨bk7, 0, none⟩)), (5, .pointer (some ⟨bk12, 0, none⟩)), (6, .bool false), (7, .bool (MeetOk va vb n && mayB (thrS va n) (thrS vb n))), (8, .bool (MeetOk va vb n && mustB (thrS va n) (thrS vb n))), (10, .pointer (some ⟨bk148, 0, none⟩)), (11, .pointer (some ⟨bk153, 0, none⟩)), (12, .bool true), (13, .int .i64 0), (59, .int .i64 0), (60, .bool true)] ⟨rfl, rfl, rfl, rfl, rfl, rfl, rfl, rfl, rfl, rfl, rfl, rfl, trivial⟩ (c_drawn follows 17 [some (64, some (.int .i64 0)), some (65, some (.pointer (some ⟨bk2, 0, none⟩))), some (66, some (.agg #[.int .i64 va.st.lo, .int .i64 va.st.hi, .slice ao1 ((va.runs).length) cap1, .int .i64 va.len, .int .i64 va.wid])), some (67, none), some (68, some (.agg #[.int .i64 n.frm, .int .i64 n.to, .int .i64 n.wid, .bool n.single])), some (69, some (.tuple #[.agg #[.int .i64 ((ThrS va n).inn.lo), .int .i64 ((ThrS va n).inn.hi)], .agg #[.int .i64 ((ThrS va n).out.lo), .int .i64 ((ThrS va n).out.hi)], .bool ((ThrS va n).there), .int .i64 (ThrE va n)])), some (63, some (.tuple #[.agg #[.int .i64 ((ThrS va n).inn.lo), .int .i64 ((ThrS va n).inn.hi)], .agg #[.int .i64 ((ThrS va n).out.lo), .int .i64 ((ThrS va n).out.hi)], .bool ((ThrS va n).there), .int .i64 (ThrE va n)])), some (70, some (.agg #[.int .i64 ((ThrS va n).inn.lo), .int .i64 ((ThrS va n).inn.hi)])), some (71, some (.agg #[.int .i64 ((ThrS va n).out.lo), .int .i64 ((ThrS va n).out.hi)])), some (72, some (.bool ((ThrS va n).there))), some (73, some (.int .i64 (ThrE va n))), some (14, none), some (15, none), none, none, some (16, some (.bool ((ThrS va n).there))), some (17, some (.int .i64 (ThrE va n)))] [[],[0],[1],[2],[],[3,4,3],[5],[6],[6],[6],[6],[],[],[11,7,5,0,1,2,3,4,5,6,7,11,12],[12,8,13,0,1,2,3,4,5,6,7,8,11,12,13],[9,14,0,1,2,3,4,5,6,7,8,9,11,12,13,14],[10,15,0,1,2,3,4,5,6,7,8,9,10,11,12,13,14,15]] (fun D ρ w => Upd (fun _ => False) w164 w ∧ (D 3 = true → ∃ aoC180 bC180 cpC180, ρ 3 = .agg #[.int .i64 va.st.lo, .int .i64 va.st.hi, .slice aoC180 ((va.runs).length) cpC180, .int .i64 va.len, .int .i64 va.wid] ∧ (D 5 = false → (Sl encRun 6 w aoC180 bC180 0 va.runs ∧ w164.heap.size ≤ bC180))) ∧ (D 11 = true → ∃ bk192, ρ 11 = .pointer (some ⟨bk192, 0, none⟩) ∧ w164.heap.size ≤ bk192 ∧ Blk w bk192 45 [(bif D 13 then .int .i64 ((ThrS va n).inn.lo) else .int .i64 0), (bif D 13 then .int .i64 ((ThrS va n).inn.hi) else .int .i64 0)]) ∧ (D 12 = true → ∃ bk197, ρ 12 = .pointer (some ⟨bk197, 0, none⟩) ∧ w164.heap.size ≤ bk197 ∧ Blk w bk197 45 [(bif D 14 then .int .i64 ((ThrS va n).out.lo) else .int .i64 0), (bif D 14 then .int .i64 ((ThrS va n).out.hi) else .int .i64 0)]) ∧ (∀ b c, D 11 = true → D 12 = true → ρ 11 = .pointer (some ⟨b, 0, none⟩) → ρ 12 = .pointer (some ⟨c, 0, none⟩) → b ≠ c)) rfl rfl rfl (by kernel_rfl) (by kernel_rfl) ⟨(Upd.drew _).to, (fun h => by cases h), (fun h => by cases h), (fun h => by cases h), (fun _ _ h => by cases h)⟩ ⟨?_, ?_, ?_, ?_, ?_, ?_, ?_, ?_, ?_, ?_, ?_, ?_, ?_, ?_, ?_, ?_, ?_, trivial⟩ ?_)
     · exact fun D ρ w _ _ _ hW => ⟨[(13, .int .i64 0)], ⟨fo rfl rfl, trivial⟩, fun Lr => t_move rfl rfl rfl (dz rfl hW)⟩
     ·
      intro D ρ w202 hcD hnD hdD hW
      obtain ⟨u203, F204, F205, F206, P207⟩ := hW
      have zu203 := u203.size
      refine ⟨[(3, .pointer (some ⟨bk2, 0, none⟩)), (64, .int .i64 0)], ⟨fo rfl rfl, fi 0 rfl rfl rfl, trivial⟩, fun Lr => ?_⟩
      show WL _ _ _ _ _ _ _ ((3, .pointer (some ⟨bk2, 0, none⟩)) :: (64, .int .i64 0) :: Lr) _
      refine t_indexArr (j := 0) (0) Try.underlying94 Try.sizeOf48 rfl rfl rfl rfl rfl (by decide) rfl ?_
      exact dz rfl ⟨u203, F204, F205, F206, P207⟩
     ·
      intro D ρ w209 hcD hnD hdD hW
      obtain ⟨u210, F211, F212, F213, P214⟩ := hW
      have zu210 := u210.size
      refine ⟨[(65, .pointer (some ⟨bk2, 0, none⟩))], ⟨fi 1 rfl rfl rfl, trivial⟩, fun Lr => ?_⟩
      show WL _ _ _ _ _ _ _ ((65, .pointer (some ⟨bk2, 0, none⟩)) :: Lr) _
      have B216 := (B178.keep u210 (fun h => h))
      refine t_loadN (vs := [.int .i64 va.st.lo, .int .i64 va.st.hi, .slice ao1 ((va.runs).length) cap1, .int .i64 va.len, .int .i64 va.wid]) Try.isAgg48 Try.sizeOf48 rfl rfl rfl (B216.at.sub 0 5) rfl ?_
      exact dz rfl ⟨u210, F211, F212, F213, P214⟩
     ·
      intro D ρ w217 hcD hnD hdD hW
      obtain ⟨u218, F219, F220, F221, P222⟩ := hW
      have zu218 := u218.size
      have E223 := E167.next u218 (fun _ _ h => h.elim)
      refine ⟨[(66, .agg #[.int .i64 va.st.lo, .int .i64 va.st.hi, .slice ao1 ((va.runs).length) cap1, .int .i64 va.len, .int .i64 va.wid])], ⟨fi 2 rfl rfl rfl, trivial⟩, fun Lr => ?_⟩
      show WL _ _ _ _ _ _ _ ((66, .agg #[.int .i64 va.st.lo, .int .i64 va.st.hi, .slice ao1 ((va.runs).length) cap1, .int .i64 va.len, .int .i64 va.wid]) :: Lr) _
      refine t_call (vs := [.agg #[.int .i64 va.st.lo, .int .i64 va.st.hi, .slice ao1 ((va.runs).length) cap1, .int .i64 va.len, .int .i64 va.wid]]) own28 rfl rfl rfl rfl (copied_c va ao1 b1 o1 cap1 _ (hs1.keep E223 (fun _ h => h)) (by omega)) (fun v225 w226 r228 => ?_)
      obtain ⟨⟨aoC224, bC224, cpC224, rfl, hC224, gebC224⟩, u227⟩ := r228
      have zu227 := u227.size
      exact dzn rfl ⟨(u218.next u227 (fun _ _ h => h.elim)), (fun _ => ⟨aoC224, bC224, cpC224, rfl, fun _ => ⟨hC224, by omega⟩⟩), (fun h => by obtain ⟨b, e, hge, hB⟩ := F220 h; exact ⟨b, e, hge, (hB.keep u227 (fun h => h))⟩), (fun h => by obtain ⟨b, e, hge, hB⟩ := F221 h; exact ⟨b, e, hge, (hB.keep u227 (fun h => h))⟩), P222⟩
     ·
      intro D ρ w230 hcD hnD hdD hW
      obtain ⟨u231, F232, F233, F234, P235⟩ := hW
      have zu231 := u231.size
      refine ⟨[(4, .pointer (some ⟨bk7, 0, none⟩))], ⟨fo rfl rfl, trivial⟩, fun Lr => ?_⟩
      show WL _ _ _ _ _ _ _ ((4, .pointer (some ⟨bk7, 0, none⟩)) :: Lr) _
      have B237 := (B179.keep u231 (fun h => h))
      refine t_loadN (vs := [.int .i64 n.frm, .int .i64 n.to, .int .i64 n.wid, .bool n.single]) Try.isAgg72 Try.sizeOf72 rfl rfl rfl (B237.at.sub 0 4) rfl ?_
      exact dz rfl ⟨u231, F232, F233, F234, P235⟩
     ·
      intro D ρ w238 hcD hnD hdD hW
      obtain ⟨u239, F240, F241, F242, P243⟩ := hW
      have zu239 := u239.size
      obtain ⟨aoC180, bC180, cpC180, e245, H246⟩ := F240 (hdD 3 rfl)
      have H247 := H246 hnD
      have hsH247 := H247.1
      have hgH247 := H247.2
      refine ⟨[(67, .agg #[.int .i64 va.st.lo, .int .i64 va.st.hi, .slice aoC180 ((va.runs).length) cpC180, .int .i64 va.len, .int .i64 va.wid]), (68, .agg #[.int .i64 n.frm, .int .i64 n.to, .int .i64 n.wid, .bool n.single])], ⟨fi 3 rfl rfl e245.symm, fi 4 rfl rfl rfl, trivial⟩, fun Lr => ?_⟩
      show WL _ _ _ _ _ _ _ ((67, .agg #[.int .i64 va.st.lo, .int .i64 va.st.hi, .slice aoC180 ((va.runs).length) cpC180, .int .i64 va.len, .int .i64 va.wid]) :: (68, .agg #[.int .i64 n.frm, .int .i64 n.to, .int .i64 n.wid, .bool n.single]) :: Lr) _
      refine t_call (vs := [.agg #[.int .i64 va.st.lo, .int .i64 va.st.hi, .slice aoC180 ((va.runs).length) cpC180, .int .i64 va.len, .int .i64 va.wid], .agg #[.int .i64 n.frm, .int .i64 n.to, .int .i64 n.wid, .bool n.single]]) own40 rfl rfl rfl rfl (Through_c va aoC180 bC180 0 cpC180 n _ hsH247 (by omega)) (fun v248 w249 r251 => ?_)
      obtain ⟨rfl, u250⟩ := r251
      have zu250 := u250.size
      exact dz rfl ⟨(u239.next u250 (fun _ _ h => h.elim)), (fun h => by obtain ⟨aoC180, bC180, cpC180, e, _⟩ := F240 h; exact ⟨aoC180, bC180, cpC180, e, fun h => by cases h⟩), (fun h => by obtain ⟨b, e, hge, hB⟩ := F241 h; exact ⟨b, e, hge, (hB.keep u250 (fun h => h))⟩), (fun h => by obtain ⟨b, e, hge, hB⟩ := F242 h; exact ⟨b, e, hge, (hB.keep u250 (fun h => h))⟩), P243⟩
     · exact fun D ρ w _ _ _ hW => ⟨[(69, .tuple #[.agg #[.int .i64 ((ThrS va n).inn.lo), .int .i64 ((ThrS va n).inn.hi)], .agg #[.int .i64 ((ThrS va n).out.lo), .int .i64 ((ThrS va n).out.hi)], .bool ((ThrS va n).there), .int .i64 (ThrE va n)])], ⟨fi 5 rfl rfl rfl, trivial⟩, fun Lr => t_move rfl rfl rfl (dz rfl hW)⟩
     · exact fun D ρ w _ _ _ hW => ⟨[(63, .tuple #[.agg #[.int .i64 ((ThrS va n).inn.lo), .int .i64 ((ThrS va n).inn.hi)], .agg #[.int .i64 ((ThrS va n).out.lo), .int .i64 ((ThrS va n).out.hi)], .bool ((ThrS va n).there), .int .i64 (ThrE va n)])], ⟨fi 6 rfl rfl rfl, trivial⟩, fun Lr => t_extract (vs := [.agg #[.int .i64 ((ThrS va n).inn.lo), .int .i64 ((ThrS va n).inn.hi)], .agg #[.int .i64 ((ThrS va n).out.lo), .int .i64 ((ThrS va n).out.hi)], .bool ((ThrS va n).there), .int .i64 (ThrE va n)]) rfl rfl rfl rfl (dz rfl hW)⟩
     · exact fun D ρ w _ _ _ hW => ⟨[(63, .tuple #[.agg #[.int .i64 ((ThrS va n).inn.lo), .int .i64 ((ThrS va n).inn.hi)], .agg #[.int .i64 ((ThrS va n).out.lo), .int .i64 ((ThrS va n).out.hi)], .bool ((ThrS va n).there), .int .i64 (ThrE va n)])], ⟨fi 6 rfl rfl rfl, trivial⟩, fun Lr => t_extract (vs := [.agg #[.int .i64 ((ThrS va n).inn.lo), .int .i64 ((ThrS va n).inn.hi)], .agg #[.int .i64 ((ThrS va n).out.lo), .int .i64 ((ThrS va n).out.hi)], .bool ((ThrS va n).there), .int .i64 (ThrE va n)]) rfl rfl rfl rfl (dz rfl hW)⟩
     · exact fun D ρ w _ _ _ hW => ⟨[(63, .tuple #[.agg #[.int .i64 ((ThrS va n).inn.lo), .int .i64 ((ThrS va n).inn.hi)], .agg #[.int .i64 ((ThrS va n).out.lo), .int .i64 ((ThrS va n).out.hi)], .bool ((ThrS va n).there), .int .i64 (ThrE va n)])], ⟨fi 6 rfl rfl rfl, trivial⟩, fun Lr => t_extract (vs := [.agg #[.int .i64 ((ThrS va n).inn.lo), .int .i64 ((ThrS va n).inn.hi)], .agg #[.int .i64 ((ThrS va n).out.lo), .int .i64 ((ThrS va n).out.hi)], .bool ((ThrS va n).there), .int .i64 (ThrE va n)]) rfl rfl rfl rfl (dz rfl hW)⟩
     · exact fun D ρ w _ _ _ hW => ⟨[(63, .tuple #[.agg #[.int .i64 ((ThrS va n).inn.lo), .int .i64 ((ThrS va n).inn.hi)], .agg #[.int .i64 ((ThrS va n).out.lo), .int .i64 ((ThrS va n).out.hi)], .bool ((ThrS va n).there), .int .i64 (ThrE va n)])], ⟨fi 6 rfl rfl rfl, trivial⟩, fun Lr => t_extract (vs := [.agg #[.int .i64 ((ThrS va n).inn.lo), .int .i64 ((ThrS va n).inn.hi)], .agg #[.int .i64 ((ThrS va n).out.lo), .int .i64 ((ThrS va n).out.hi)], .bool ((ThrS va n).there), .int .i64 (ThrE va n)]) rfl rfl rfl rfl (dz rfl hW)⟩
     ·
      intro D ρ w253 hcD hnD hdD hW
      obtain ⟨u254, F255, F256, F257, P258⟩ := hW
      have zu254 := u254.size
      refine ⟨[], trivial, fun Lr => ?_⟩
      show WL _ _ _ _ _ _ _ (Lr) _
      refine t_alloc (cs := [.int .i64 0, .int .i64 0]) Try.zeroValue45 rfl rfl rfl (fun bk260 w261 ebk260 sbk260 B262 u263 => ?_)
      have zu263 := u263.size
      have d13 := hcD.late 13 hnD rfl
      exact dzn rfl ⟨(u254.next u263 (fun _ _ h => h.elim)), (fun h => by obtain ⟨aoC180, bC180, cpC180, e, hB⟩ := F255 h; exact ⟨aoC180, bC180, cpC180, e, fun h2 => ⟨((hB h2).1.keep u263 (fun _ h => h)), (hB h2).2⟩⟩), (fun _ => ⟨bk260, rfl, (by omega), (by show Blk w261 bk260 45 [(bif D 13 then .int .i64 ((ThrS va n).inn.lo) else .int .i64 0), (bif D 13 then .int .i64 ((ThrS va n).inn.hi) else .int .i64 0)]; simp only [d13, cond_false]; exact B262)⟩), (fun h => by obtain ⟨b, e, hge, hB⟩ := F257 h; exact ⟨b, e, hge, (hB.keep u263 (fun h => h))⟩), (fun b c h1 h2 e1 e2 => by obtain ⟨b1, e3, _, hB⟩ := F257 h2; have hl := hB.lt; have e4 : Value.pointer (some ⟨b1, 0, none⟩) = .pointer (some ⟨c, 0, none⟩) := e3.symm.trans e2; have e5 : Value.pointer (some ⟨bk260, 0, none⟩) = .pointer (some ⟨b, 0, none⟩) := e1; simp at e4 e5; omega)⟩
     ·
      intro D ρ w265 hcD hnD hdD hW
      obtain ⟨u266, F267, F268, F269, P270⟩ := hW
      have zu266 := u266.size
      refine ⟨[], trivial, fun Lr => ?_⟩
      show WL _ _ _ _ _ _ _ (Lr) _
      refine t_alloc (cs := [.int .i64 0, .int .i64 0]) Try.zeroValue45 rfl rfl rfl (fun bk272 w273 ebk272 sbk272 B274 u275 => ?_)
      have zu275 := u275.size
      have d14 := hcD.late 14 hnD rfl
      exact dzn rfl ⟨(u266.next u275 (fun _ _ h => h.elim)), (fun h => by obtain ⟨aoC180, bC180, cpC180, e, hB⟩ := F267 h; exact ⟨aoC180, bC180, cpC180, e, fun h2 => ⟨((hB h2).1.keep u275 (fun _ h => h)), (hB h2).2⟩⟩), (fun h => by obtain ⟨b, e, hge, hB⟩ := F268 h; exact ⟨b, e, hge, (hB.keep u275 (fun h => h))⟩), (fun _ => ⟨bk272, rfl, (by omega), (by show Blk w273 bk272 45 [(bif D 14 then .int .i64 ((ThrS va n).out.lo) else .int .i64 0), (bif D 14 then .int .i64 ((ThrS va n).out.hi) else .int .i64 0)]; simp only [d14, cond_false]; exact B274)⟩), (fun b c h1 h2 e1 e2 => by obtain ⟨b1, e3, _, hB⟩ := F268 h1; have hl := hB.lt; have e4 : Value.pointer (some ⟨b1, 0, none⟩) = .pointer (some ⟨b, 0, none⟩) := e3.symm.trans e1; have e5 : Value.pointer (some ⟨bk272, 0, none⟩) = .pointer (some ⟨c, 0, none⟩) := e2; simp at e4 e5; omega)⟩
     ·
      intro D ρ w277 hcD hnD hdD hW
      obtain ⟨u278, F279, F280, F281, P282⟩ := hW
      have zu278 := u278.size
      obtain ⟨bk192, e284, gebk192, B285⟩ := F280 (hdD 11 rfl)
      have B286 := B285
      simp only [hnD, cond_false] at B286
      refine ⟨[(14, .pointer (some ⟨bk192, 0, none⟩)), (70, .agg #[.int .i64 ((ThrS va n).inn.lo), .int .i64 ((ThrS va n).inn.hi)])], ⟨fi 11 rfl rfl e284.symm, fi 7 rfl rfl rfl, trivial⟩, fun Lr => ?_⟩
      show WL _ _ _ _ _ _ _ ((14, .pointer (some ⟨bk192, 0, none⟩)) :: (70, .agg #[.int .i64 ((ThrS va n).inn.lo), .int .i64 ((ThrS va n).inn.hi)]) :: Lr) _
      refine t_store (vs := [.int .i64 ((ThrS va n).inn.lo), .int .i64 ((ThrS va n).inn.hi)]) Try.sizeOf45 rfl rfl rfl B286 rfl rfl (Nat.le_of_ble_eq_true rfl) (by simp [Value.oneCell']) (fun w287 sw287 B289 u288 => ?_)
      have zu288 := u288.size
      have B289 : Blk w287 bk192 45 [.int .i64 ((ThrS va n).inn.lo), .int .i64 ((ThrS va n).inn.hi)] := B289
      exact dz0 rfl ⟨(u278.next u288 (fun i hi (h : i = bk192) => show False by first | omega | assumption)), (fun h => by obtain ⟨aoC180, bC180, cpC180, e, _⟩ := F279 h; exact ⟨aoC180, bC180, cpC180, e, fun h2 => absurd ((hdD 5 rfl).symm.trans h2) (by decide)⟩), (fun _ => ⟨bk192, e284, gebk192, (by show Blk w287 bk192 45 [.int .i64 ((ThrS va n).inn.lo), .int .i64 ((ThrS va n).inn.hi)]; exact B289)⟩), (fun h => by obtain ⟨b, e, hge, hB⟩ := F281 h; have hne := P282 _ _ (hdD 11 rfl) h e284 e; exact ⟨b, e, hge, (hB.keep u288 (show ¬ (b = bk192) by first | omega | assumption))⟩), P282⟩
     ·
      intro D ρ w291 hcD hnD hdD hW
      obtain ⟨u292, F293, F294, F295, P296⟩ := hW
      have zu292 := u292.size
      obtain ⟨bk197, e298, gebk197, B299⟩ := F295 (hdD 12 rfl)
      have B300 := B299
      simp only [hnD, cond_false] at B300
      refine ⟨[(15, .pointer (some ⟨bk197, 0, none⟩)), (71, .agg #[.int .i64 ((ThrS va n).out.lo), .int .i64 ((ThrS va n).out.hi)])], ⟨fi 12 rfl rfl e298.symm, fi 8 rfl rfl rfl, trivial⟩, fun Lr => ?_⟩
      show WL _ _ _ _ _ _ _ ((15, .pointer (some ⟨bk197, 0, none⟩)) :: (71, .agg #[.int .i64 ((ThrS va n).out.lo), .int .i64 ((ThrS va n).out.hi)]) :: Lr) _
      refine t_store (vs := [.int .i64 ((ThrS va n).out.lo), .int .i64 ((ThrS va n).out.hi)]) Try.sizeOf45 rfl rfl rfl B300 rfl rfl (Nat.le_of_ble_eq_true rfl) (by simp [Value.oneCell']) (fun w301 sw301 B303 u302 => ?_)
      have zu302 := u302.size
      have B303 : Blk w301 bk197 45 [.int .i64 ((ThrS va n).out.lo), .int .i64 ((ThrS va n).out.hi)] := B303
      exact dz0 rfl ⟨(u292.next u302 (fun i hi (h : i = bk197) => show False by first | omega | assumption)), (fun h => by obtain ⟨aoC180, bC180, cpC180, e, _⟩ := F293 h; exact ⟨aoC180, bC180, cpC180, e, fun h2 => absurd ((hdD 5 rfl).symm.trans h2) (by decide)⟩), (fun h => by obtain ⟨b, e, hge, hB⟩ := F294 h; have hne := P296 _ _ h (hdD 12 rfl) e e298; exact ⟨b, e, hge, (hB.keep u302 (show ¬ (b = bk197) by first | omega | assumption))⟩), (fun _ => ⟨bk197, e298, gebk197, (by show Blk w301 bk197 45 [.int .i64 ((ThrS va n).out.lo), .int .i64 ((ThrS va n).out.hi)]; exact B303)⟩), P296⟩
     · exact fun D ρ w _ _ _ hW => ⟨[(72, .bool ((ThrS va n).there))], ⟨fi 9 rfl rfl rfl, trivial⟩, fun Lr => t_assign rfl rfl rfl (dz rfl hW)⟩
     · exact fun D ρ w _ _ _ hW => ⟨[(73, .int .i64 (ThrE va n))], ⟨fi 10 rfl rfl rfl, trivial⟩, fun Lr => t_assign rfl rfl rfl (dz rfl hW)⟩
     intro ρ w305 hW
     obtain ⟨u306, F307, F308, F309, P310⟩ := hW
     have zu306 := u306.size
     have E311 := E167.next u306 (fun _ _ h => h.elim)
     obtain ⟨bk192, e313, gebk192, B314⟩ := F308 rfl
     have B314 : Blk w305 bk192 45 [.int .i64 ((ThrS va n).inn.lo), .int .i64 ((ThrS va n).inn.hi)] := B314
     have lt_bk192 := B314.lt
     obtain ⟨bk197, e315, gebk197, B316⟩ := F309 rfl
     have B316 : Blk w305 bk197 45 [.int .i64 ((ThrS va n).out.lo), .int .i64 ((ThrS va n).out.hi)] := B316
     have lt_bk197 := B316.lt
     have nbk192_bk197 := P310 _ _ rfl rfl e313 e315
     refine QK.weak [(3, .pointer (some ⟨bk2, 0, none⟩)), (4, .pointer (some ⟨bk7, 0, none⟩)), (5, .pointer (some ⟨bk12, 0, none⟩)), (6, .bool false), (7, .bool (MeetOk va vb n && mayB (thrS va n) (thrS vb n))), (8, .bool (MeetOk va vb n && mustB (thrS va n) (thrS vb n))), (10, .pointer (some ⟨bk148, 0, none⟩)), (11, .pointer (some ⟨bk153, 0, none⟩)), (12, .bool true), (13, .int .i64 0), (14, .pointer (some ⟨bk192, 0, none⟩)), (15, .pointer (some ⟨bk197, 0, none⟩)), (16, .bool ((ThrS va n).there)), (17, .int .i64 (ThrE va n)), (59, .int .i64 0), (60, .bool true), (63, .tuple #[.agg #[.int .i64 ((ThrS va n).inn.lo), .int .i64 ((ThrS va n).inn.hi)], .agg #[.int .i64 ((ThrS va n).out.lo), .int .i64 ((ThrS va n).out.hi)], .bool ((ThrS va n).there), .int .i64 (ThrE va n)]), (64, .int .i64 0), (65, .pointer (some ⟨bk2, 0, none⟩)), (66, .agg #[.int .i64 va.st.lo, .int .i64 va.st.hi, .slice ao1 ((va.runs).length) cap1, .int .i64 va.len, .int .i64 va.wid]), (68, .agg #[.int .i64 n.frm, .int .i64 n.to, .int .i64 n.wid, .bool n.single]), (69, .tuple #[.agg #[.int .i64 ((ThrS va n).inn.lo), .int .i64 ((ThrS va n).inn.hi)], .agg #[.int .i64 ((ThrS va n).out.lo), .int .i64 ((ThrS va n).out.hi)], .bool ((ThrS va n).there), .int .i64 (ThrE va n)]), (70, .agg #[.int .i64 ((ThrS va n).inn.lo), .int .i64 ((ThrS va n).inn.hi)]), (71, .agg #[.int .i64 ((ThrS va n).out.lo), .int .i64 ((ThrS va n).out.hi)]), (72, .bool ((ThrS va n).there)), (73, .int .i64 (ThrE va n))] ⟨rfl, rfl, rfl, rfl, rfl, rfl, rfl, rfl, rfl, rfl, (look_nd (j := 11) rfl rfl rfl e313), (look_nd (j := 12) rfl rfl rfl e315), rfl, rfl, rfl, rfl, rfl, rfl, rfl, rfl, rfl, rfl, rfl, rfl, rfl, rfl, trivial⟩ (hK177 _ _ (c_seq fun K317 hK317 => (c_seq fun K318 hK318 => (c_region (t_same 17 (v := .int .i64 0) rfl (congrArg (Value.int .i64) (by simp [ThrE, hk1, hm, hEa])) (t_same 16 (v := .bool ((thrS va n).there)) rfl (congrArg Value.bool (by simp [ThrS, hk1, hm])) ?_))))))
     have B319 : Blk w305 bk192 45 [.int .i64 ((thrS va n).inn.lo), .int .i64 ((thrS va n).inn.hi)] := by
      have e : ([.int .i64 ((ThrS va n).inn.lo), .int .i64 ((ThrS va n).inn.hi)] : List Value) = [.int .i64 ((thrS va n).inn.lo), .int .i64 ((thrS va n).inn.hi)] := by simp [ThrS, hk1, hm]
      rw [← e]; exact B314
     have B320 : Blk w305 bk197 45 [.int .i64 ((thrS va n).out.lo), .int .i64 ((thrS va n).out.hi)] := by
      have e : ([.int .i64 ((ThrS va n).out.lo), .int .i64 ((ThrS va n).out.hi)] : List Value) = [.int .i64 ((thrS va n).out.lo), .int .i64 ((thrS va n).out.hi)] := by simp [ThrS, hk1, hm]
      rw [← e]; exact B316
     refine t_move rfl rfl rfl (t_cmp rfl rfl rfl rfl rfl (t_samehd (v := .bool false) rfl (t_nil' (hK318 _ _ (c_cond_f rfl (c_skip (hK317 _ _ (c_seq fun K321 hK321 => (c_cut (γ := Unit) (fun _x => [(3, .pointer (some ⟨bk2, 0, none⟩)), (4, .pointer (some ⟨bk7, 0, none⟩)), (5, .pointer (some ⟨bk12, 0, none⟩)), (6, .bool false), (7, .bool (MeetOk va vb n && mayB (thrS va n) (thrS vb n))), (8, .bool (MeetOk va vb n && mustB (thrS va n) (thrS vb n))), (10, .pointer (some ⟨bk148, 0, none⟩)), (11, .pointer (some ⟨bk153, 0, none⟩)), (12, .bool ((thrS va n).there)), (13, .int .i64 0), (14, .pointer (some ⟨bk192, 0, none⟩)), (15, .pointer (some ⟨bk197, 0, none⟩)), (16, .bool ((thrS va n).there)), (17, .int .i64 0), (59, .int .i64 0), (60, .bool true), (63, .tuple #[.agg #[.int .i64 ((ThrS va n).inn.lo), .int .i64 ((ThrS va n).inn.hi)], .agg #[.int .i64 ((ThrS va n).out.lo), .int .i64 ((ThrS va n).out.hi)], .bool ((ThrS va n).there), .int .i64 (ThrE va n)]), (64, .int .i64 0), (65, .pointer (some ⟨bk2, 0, none⟩)), (66, .agg #[.int .i64 va.st.lo, .int .i64 va.st.hi, .slice ao1 ((va.runs).length) cap1, .int .i64 va.len, .int .i64 va.wid]), (68, .agg #[.int .i64 n.frm, .int .i64 n.to, .int .i64 n.wid, .bool n.single]), (69, .tuple #[.agg #[.int .i64 ((ThrS va n).inn.lo), .int .i64 ((ThrS va n).inn.hi)], .agg #[.int .i64 ((ThrS va n).out.lo), .int .i64 ((ThrS va n).out.hi)], .bool ((ThrS va n).there), .int .i64 (ThrE va n)]), (70, .agg #[.int .i64 ((ThrS va n).inn.lo), .int .i64 ((ThrS va n).inn.hi)]), (71, .agg #[.int .i64 ((ThrS va n).out.lo), .int .i64 ((ThrS va n).out.hi)]), (72, .bool ((ThrS va n).there)), (73, .int .i64 (ThrE va n)), (74, .int .i64 0), (75, .bool false)]) (fun _x w => Upd (fun _ => False) w305 w) (fun K323 hK323 => ?_) ?_)))))))))
     ·
      refine c_region (t_move rfl rfl rfl (t_move rfl rfl rfl (t_move rfl rfl rfl (t_pick_t rfl rfl rfl rfl (t_assign rfl rfl rfl (t_nil' ?_))))))
      exact hK323 () _ _ ⟨rfl, rfl, rfl, rfl, rfl, rfl, rfl, rfl, rfl, rfl, rfl, rfl, rfl, rfl, rfl, rfl, rfl, rfl, rfl, rfl, rfl, rfl, rfl, rfl, rfl, rfl, rfl, rfl, trivial⟩ (Upd.refl _ _)
     ·
      intro _x w324 u325
      have zu325 := u325.size
      have E326 := E311.next u325 (fun _ _ h => h.elim)
      refine c_seq fun K327 hK327 => (c_region (t_move rfl rfl rfl (t_not rfl rfl rfl (t_nil' (hK327 _ _ (c_cond rfl (fun g81 => ?_) (fun g81 => ?_)))))))
      ·
       have hth0 : (thrS va n).there = false := by simpa using g81
       have hS0 := thrS_not hth0
       have B328 := (B319.keep u325 (fun h => h))
       have B329 : Blk w324 bk192 45 [.int .i64 0, .int .i64 0] := by
        have e : ([.int .i64 ((thrS va n).inn.lo), .int .i64 ((thrS va n).inn.hi)] : List Value) = [.int .i64 0, .int .i64 0] := by simp [hS0]
        rw [← e]; exact B328
       have B330 := (B320.keep u325 (fun h => h))
       have B331 : Blk w324 bk197 45 [.int .i64 0, .int .i64 0] := by
        have e : ([.int .i64 ((thrS va n).out.lo), .int .i64 ((thrS va n).out.hi)] : List Value) = [.int .i64 0, .int .i64 0] := by simp [hS0]
        rw [← e]; exact B330
       refine c_seq fun K332 hK332 => (c_seq fun K333 hK333 => (c_region (t_loadN (vs := [.int .i64 0, .int .i64 0]) Try.isAgg45 Try.sizeOf45 rfl rfl rfl (B329.at.sub 0 2) rfl (t_build (ps := []) (v := .agg #[.int .i64 0, .int .i64 0]) rfl rfl ⟨rfl, rfl⟩ (fun w => by kernel_rfl) (t_neS (xs := [.int .i64 0, .int .i64 0]) (ys := [.int .i64 0, .int .i64 0]) (by kernel_rfl) (eqIn45 9998 0 0 0 0) rfl rfl rfl rfl (t_samehd (v := .bool false) rfl (t_move rfl rfl rfl (t_loadN (vs := [.int .i64 0, .int .i64 0]) Try.isAgg45 Try.sizeOf45 rfl rfl rfl (B331.at.sub 0 2) rfl (t_loadN (vs := [.int .i64 0, .int .i64 0]) Try.isAgg45 Try.sizeOf45 rfl rfl rfl (B329.at.sub 0 2) rfl (t_neS (xs := [.int .i64 0, .int .i64 0]) (ys := [.int .i64 0, .int .i64 0]) (by kernel_rfl) (eqIn45 9998 0 0 0 0) rfl rfl rfl rfl (t_samehd (v := .bool false) rfl (t_pick_f rfl rfl rfl rfl (t_nil' (hK333 _ _ (c_cond_f rfl (c_skip (hK332 _ _ (c_exit ?_))))))))))))))))))
       have B334 := (((B161.keep u165 (show ¬ (bk148 = bk153) by first | omega | assumption)).keep u306 (fun h => h)).keep u325 (fun h => h))
       have B335 : Blk w324 bk148 82 [.int .i64 (if (thrS va n).there = true then (tru va s0 tp0 tw0 (entP va n)) else 0), .int .i64 0] := by
        have e : ([.int .i64 0, .int .i64 0] : List Value) = [.int .i64 (if (thrS va n).there = true then (tru va s0 tp0 tw0 (entP va n)) else 0), .int .i64 0] := by simp [hth0]
        rw [← e]; exact B334
       have B336 := ((B166.keep u306 (fun h => h)).keep u325 (fun h => h))
       have B337 : Blk w324 bk153 82 [.int .i64 (if (thrS va n).there = true then (tru va s0 tp0 tw0 (leaP va n)) else 0), .int .i64 0] := by
        have e : ([.int .i64 0, .int .i64 0] : List Value) = [.int .i64 (if (thrS va n).there = true then (tru va s0 tp0 tw0 (leaP va n)) else 0), .int .i64 0] := by simp [hth0]
        rw [← e]; exact B336
       exact hK174 () _ _ ⟨rfl, rfl, rfl, rfl, rfl, rfl, rfl, rfl, rfl, rfl, rfl, trivial⟩ ⟨(((Upd.refl _ _).next u306 (fun _ _ h => h.elim)).next u325 (fun _ _ h => h.elim)), B335, B337⟩
      ·
       have hth0 : (thrS va n).there = true := by simpa using g81
       obtain ⟨hS0, he0, hl0⟩ := thrS_is hth0
       have B338 := (B319.keep u325 (fun h => h))
       have B339 : Blk w324 bk192 45 [.int .i64 ((arr va (entP va n)).lo), .int .i64 ((arr va (entP va n)).hi)] := by
        have e : ([.int .i64 ((thrS va n).inn.lo), .int .i64 ((thrS va n).inn.hi)] : List Value) = [.int .i64 ((arr va (entP va n)).lo), .int .i64 ((arr va (entP va n)).hi)] := by simp [hS0]
        rw [← e]; exact B338
       have B340 := (B320.keep u325 (fun h => h))
       have B341 : Blk w324 bk197 45 [.int .i64 ((arr va (leaP va n)).lo), .int .i64 ((arr va (leaP va n)).hi)] := by
        have e : ([.int .i64 ((thrS va n).out.lo), .int .i64 ((thrS va n).out.hi)] : List Value) = [.int .i64 ((arr va (leaP va n)).lo), .int .i64 ((arr va (leaP va n)).hi)] := by simp [hS0]
        rw [← e]; exact B340
       refine c_skip (hK321 _ _ (c_seq fun K342 hK342 => (c_region (t_move rfl rfl rfl (t_indexArr (j := 0) (0) Try.underlying94 Try.sizeOf48 rfl rfl rfl rfl rfl (by decide) rfl (t_field Try.underlying48 rfl Try.sizeOf3 (3) rfl rfl rfl rfl ?_))))))
       have B343 := ((B178.keep u306 (fun h => h)).keep u325 (fun h => h))
       refine t_load Try.isAgg3 rfl rfl rfl (B343.get rfl) (t_ari rfl rfl rfl rfl rfl (by omega) (t_quo rfl rfl rfl rfl (by omega) (by omega) (t_same 95 (v := .int .i64 (tail va)) rfl (congrArg (Value.int .i64) ht1.1) (t_assign rfl rfl rfl (t_nil' (hK342 _ _ (c_seq fun K344 hK344 => ?_)))))))
       have B345 := ((B179.keep u306 (fun h => h)).keep u325 (fun h => h))
       refine WC.weak [(3, .pointer (some ⟨bk2, 0, none⟩)), (4, .pointer (some ⟨bk7, 0, none⟩)), (5, .pointer (some ⟨bk12, 0, none⟩)), (6, .bool false), (7, .bool (MeetOk va vb n && mayB (thrS va n) (thrS vb n))), (8, .bool (MeetOk va vb n && mustB (thrS va n) (thrS vb n))), (10, .pointer (some ⟨bk148, 0, none⟩)), (11, .pointer (some ⟨bk153, 0, none⟩)), (12, .bool ((thrS va n).there)), (13, .int .i64 0), (14, .pointer (some ⟨bk192, 0, none⟩)), (15, .pointer (some ⟨bk197, 0, none⟩)), (16, .bool ((thrS va n).there)), (17, .int .i64 0), (18, .int .i64 (tail va)), (59, .int .i64 0), (60, .bool true), (63, .tuple #[.agg #[.int .i64 ((ThrS va n).inn.lo), .int .i64 ((ThrS va n).inn.hi)], .agg #[.int .i64 ((ThrS va n).out.lo), .int .i64 ((ThrS va n).out.hi)], .bool ((ThrS va n).there), .int .i64 (ThrE va n)]), (64, .int .i64 0), (65, .pointer (some ⟨bk2, 0, none⟩)), (66, .agg #[.int .i64 va.st.lo, .int .i64 va.st.hi, .slice ao1 ((va.runs).length) cap1, .int .i64 va.len, .int .i64 va.wid]), (68, .agg #[.int .i64 n.frm, .int .i64 n.to, .int .i64 n.wid, .bool n.single]), (69, .tuple #[.agg #[.int .i64 ((ThrS va n).inn.lo), .int .i64 ((ThrS va n).inn.hi)], .agg #[.int .i64 ((ThrS va n).out.lo), .int .i64 ((ThrS va n).out.hi)], .bool ((ThrS va n).there), .int .i64 (ThrE va n)]), (70, .agg #[.int .i64 ((ThrS va n).inn.lo), .int .i64 ((ThrS va n).inn.hi)]), (71, .agg #[.int .i64 ((ThrS va n).out.lo), .int .i64 ((ThrS va n).out.hi)]), (72, .bool ((ThrS va n).there)), (73, .int .i64 (ThrE va n)), (74, .int .i64 0), (75, .bool false), (80, .bool ((thrS va n).there)), (81, .bool (!((thrS va n).there))), (90, .int .i64 0), (91, .pointer (some ⟨bk2, 0, none⟩)), (92, .pointer (some ⟨bk2, 3, none⟩)), (93, .int .i64 va.len), (94, .int .i64 (va.len + 99)), (95, .int .i64 (tail va))] ⟨rfl, rfl, rfl, rfl, rfl, rfl, rfl, rfl, rfl, rfl, rfl, rfl, rfl, rfl, rfl, rfl, rfl, rfl, rfl, rfl, rfl, rfl, rfl, rfl, rfl, rfl, rfl, rfl, rfl, rfl, rfl, rfl, rfl, rfl, rfl, rfl, rfl, trivial⟩ (c_drawn follows 8 [some (96, some (.pointer (some ⟨bk7, 0, none⟩))), some (97, some (.int .i64 n.frm)), some (98, some (.pointer (some ⟨bk7, 1, none⟩))), some (99, some (.int .i64 n.to)), some (100, some (.int .i64 (tail va))), some (101, some (.int .i64 (n.to + (tail va)))), some (19, some (.int .i64 n.frm)), some (20, some (.int .i64 (n.to + (tail va))))] [[],[0],[],[2],[],[3,4],[1,0,1],[5,6,0,1,2,3,4,5,6]] (fun _ _ w => Upd (fun _ => False) w324 w) rfl rfl rfl (by kernel_rfl) (by kernel_rfl) (Upd.drew _).to ⟨?_, ?_, ?_, ?_, ?_, ?_, ?_, ?_, trivial⟩ ?_)
       · exact fun D ρ w _ _ _ hW => ⟨[(4, .pointer (some ⟨bk7, 0, none⟩))], ⟨fo rfl rfl, trivial⟩, fun Lr => t_field Try.underlying72 rfl Try.sizeOf3 (0) rfl rfl rfl rfl (dz rfl hW)⟩
       ·
        intro D ρ w346 hcD hnD hdD hW
        have zhW := hW.size
        refine ⟨[(96, .pointer (some ⟨bk7, 0, none⟩))], ⟨fi 0 rfl rfl rfl, trivial⟩, fun Lr => ?_⟩
        show WL _ _ _ _ _ _ _ ((96, .pointer (some ⟨bk7, 0, none⟩)) :: Lr) _
        have B349 := (B345.keep hW (fun h => h))
        refine t_load Try.isAgg3 rfl rfl rfl (B349.get rfl) ?_
        exact dz rfl hW
       · exact fun D ρ w _ _ _ hW => ⟨[(4, .pointer (some ⟨bk7, 0, none⟩))], ⟨fo rfl rfl, trivial⟩, fun Lr => t_field Try.underlying72 rfl Try.sizeOf3 (1) rfl rfl rfl rfl (dz rfl hW)⟩
       ·
        intro D ρ w350 hcD hnD hdD hW
        have zhW := hW.size
        refine ⟨[(98, .pointer (some ⟨bk7, 1, none⟩))], ⟨fi 2 rfl rfl rfl, trivial⟩, fun Lr => ?_⟩
        show WL _ _ _ _ _ _ _ ((98, .pointer (some ⟨bk7, 1, none⟩)) :: Lr) _
        have B353 := (B345.keep hW (fun h => h))
        refine t_load Try.isAgg3 rfl rfl rfl (B353.get rfl) ?_
        exact dz rfl hW
       · exact fun D ρ w _ _ _ hW => ⟨[(18, .int .i64 (tail va))], ⟨fo rfl rfl, trivial⟩, fun Lr => t_move rfl rfl rfl (dz rfl hW)⟩
       ·
        intro D ρ w354 hcD hnD hdD hW
        have zhW := hW.size
        refine ⟨[(99, .int .i64 n.to), (100, .int .i64 (tail va))], ⟨fi 3 rfl rfl rfl, fi 4 rfl rfl rfl, trivial⟩, fun Lr => ?_⟩
        show WL _ _ _ _ _ _ _ ((99, .int .i64 n.to) :: (100, .int .i64 (tail va)) :: Lr) _
        refine t_ari rfl rfl rfl rfl rfl (by omega) ?_
        exact dz rfl hW
       · exact fun D ρ w _ _ _ hW => ⟨[(97, .int .i64 n.frm)], ⟨fi 1 rfl rfl rfl, trivial⟩, fun Lr => t_assign rfl rfl rfl (dz rfl hW)⟩
       · exact fun D ρ w _ _ _ hW => ⟨[(101, .int .i64 (n.to + (tail va)))], ⟨fi 5 rfl rfl rfl, trivial⟩, fun Lr => t_assign rfl rfl rfl (dz rfl hW)⟩
       intro ρ w357 hW
       have u358 : Upd (fun _ => False) w324 w357 := hW
       have zu358 := u358.size
       have E359 := E326.next u358 (fun _ _ h => h.elim)
       refine QK.weak [(3, .pointer (some ⟨bk2, 0, none⟩)), (4, .pointer (some ⟨bk7, 0, none⟩)), (5, .pointer (some ⟨bk12, 0, none⟩)), (6, .bool false), (7, .bool (MeetOk va vb n && mayB (thrS va n) (thrS vb n))), (8, .bool (MeetOk va vb n && mustB (thrS va n) (thrS vb n))), (10, .pointer (some ⟨bk148, 0, none⟩)), (11, .pointer (some ⟨bk153, 0, none⟩)), (12, .bool ((thrS va n).there)), (13, .int .i64 0), (14, .pointer (some ⟨bk192, 0, none⟩)), (15, .pointer (some ⟨bk197, 0, none⟩)), (16, .bool ((thrS va n).there)), (17, .int .i64 0), (18, .int .i64 (tail va)), (19, .int .i64 n.frm), (20, .int .i64 (n.to + (tail va))), (59, .int .i64 0), (60, .bool true), (63, .tuple #[.agg #[.int .i64 ((ThrS va n).inn.lo), .int .i64 ((ThrS va n).inn.hi)], .agg #[.int .i64 ((ThrS va n).out.lo), .int .i64 ((ThrS va n).out.hi)], .bool ((ThrS va n).there), .int .i64 (ThrE va n)]), (64, .int .i64 0), (65, .pointer (some ⟨bk2, 0, none⟩)), (66, .agg #[.int .i64 va.st.lo, .int .i64 va.st.hi, .slice ao1 ((va.runs).length) cap1, .int .i64 va.len, .int .i64 va.wid]), (68, .agg #[.int .i64 n.frm, .int .i64 n.to, .int .i64 n.wid, .bool n.single]), (69, .tuple #[.agg #[.int .i64 ((ThrS va n).inn.lo), .int .i64 ((ThrS va n).inn.hi)], .agg #[.int .i64 ((ThrS va n).out.lo), .int .i64 ((ThrS va n).out.hi)], .bool ((ThrS va n).there), .int .i64 (ThrE va n)]), (70, .agg #[.int .i64 ((ThrS va n).inn.lo), .int .i64 ((ThrS va n).inn.hi)]), (71, .agg #[.int .i64 ((ThrS va n).out.lo), .int .i64 ((ThrS va n).out.hi)]), (72, .bool ((ThrS va n).there)), (73, .int .i64 (ThrE va n)), (74, .int .i64 0), (75, .bool false), (80, .bool ((thrS va n).there)), (81, .bool (!((thrS va n).there))), (90, .int .i64 0), (91, .pointer (some ⟨bk2, 0, none⟩)), (92, .pointer (some ⟨bk2, 3, none⟩)), (93, .int .i64 va.len), (94, .int .i64 (va.len + 99)), (95, .int .i64 (tail va)), (96, .pointer (some ⟨bk7, 0, none⟩)), (97, .int .i64 n.frm), (98, .pointer (some ⟨bk7, 1, none⟩)), (99, .int .i64 n.to), (100, .int .i64 (tail va)), (101, .int .i64 (n.to + (tail va)))] ⟨rfl, rfl, rfl, rfl, rfl, rfl, rfl, rfl, rfl, rfl, rfl, rfl, rfl, rfl, rfl, rfl, rfl, rfl, rfl, rfl, rfl, rfl, rfl, rfl, rfl, rfl, rfl, rfl, rfl, rfl, rfl, rfl, rfl, rfl, rfl, rfl, rfl, rfl, rfl, rfl, rfl, rfl, rfl, rfl, rfl, trivial⟩ (hK344 _ _ (c_cut (γ := Unit) (fun _x => [(3, .pointer (some ⟨bk2, 0, none⟩)), (4, .pointer (some ⟨bk7, 0, none⟩)), (5, .pointer (some ⟨bk12, 0, none⟩)), (6, .bool false), (7, .bool (MeetOk va vb n && mayB (thrS va n) (thrS vb n))), (8, .bool (MeetOk va vb n && mustB (thrS va n) (thrS vb n))), (10, .pointer (some ⟨bk148, 0, none⟩)), (11, .pointer (some ⟨bk153, 0, none⟩)), (12, .bool ((thrS va n).there)), (13, .int .i64 0), (14, .pointer (some ⟨bk192, 0, none⟩)), (15, .pointer (some ⟨bk197, 0, none⟩)), (16, .bool ((thrS va n).there)), (17, .int .i64 0), (18, .int .i64 (tail va)), (19, .int .i64 (entP va n)), (20, .int .i64 (leaP va n)), (59, .int .i64 0), (60, .bool true), (63, .tuple #[.agg #[.int .i64 ((ThrS va n).inn.lo), .int .i64 ((ThrS va n).inn.hi)], .agg #[.int .i64 ((ThrS va n).out.lo), .int .i64 ((ThrS va n).out.hi)], .bool ((ThrS va n).there), .int .i64 (ThrE va n)]), (64, .int .i64 0), (65, .pointer (some ⟨bk2, 0, none⟩)), (66, .agg #[.int .i64 va.st.lo, .int .i64 va.st.hi, .slice ao1 ((va.runs).length) cap1, .int .i64 va.len, .int .i64 va.wid]), (68, .agg #[.int .i64 n.frm, .int .i64 n.to, .int .i64 n.wid, .bool n.single]), (69, .tuple #[.agg #[.int .i64 ((ThrS va n).inn.lo), .int .i64 ((ThrS va n).inn.hi)], .agg #[.int .i64 ((ThrS va n).out.lo), .int .i64 ((ThrS va n).out.hi)], .bool ((ThrS va n).there), .int .i64 (ThrE va n)]), (70, .agg #[.int .i64 ((ThrS va n).inn.lo), .int .i64 ((ThrS va n).inn.hi)]), (71, .agg #[.int .i64 ((ThrS va n).out.lo), .int .i64 ((ThrS va n).out.hi)]), (72, .bool ((ThrS va n).there)), (73, .int .i64 (ThrE va n)), (74, .int .i64 0), (75, .bool false), (80, .bool ((thrS va n).there)), (81, .bool (!((thrS va n).there))), (90, .int .i64 0), (91, .pointer (some ⟨bk2, 0, none⟩)), (92, .pointer (some ⟨bk2, 3, none⟩)), (93, .int .i64 va.len), (94, .int .i64 (va.len + 99)), (95, .int .i64 (tail va)), (96, .pointer (some ⟨bk7, 0, none⟩)), (97, .int .i64 n.frm), (98, .pointer (some ⟨bk7, 1, none⟩)), (99, .int .i64 n.to), (100, .int .i64 (tail va)), (101, .int .i64 (n.to + (tail va)))]) (fun _x w => Upd (fun _ => False) w357 w) (fun K361 hK361 => ?_) ?_))
       ·
        refine c_seq fun K364 hK364 => ?_
        have B365 := (B343.keep u358 (fun h => h))
        refine WC.weak [(3, .pointer (some ⟨bk2, 0, none⟩)), (4, .pointer (some ⟨bk7, 0, none⟩)), (5, .pointer (some ⟨bk12, 0, none⟩)), (6, .bool false), (7, .bool (MeetOk va vb n && mayB (thrS va n) (thrS vb n))), (8, .bool (MeetOk va vb n && mustB (thrS va n) (thrS vb n))), (10, .pointer (some ⟨bk148, 0, none⟩)), (11, .pointer (some ⟨bk153, 0, none⟩)), (12, .bool ((thrS va n).there)), (13, .int .i64 0), (14, .pointer (some ⟨bk192, 0, none⟩)), (15, .pointer (some ⟨bk197, 0, none⟩)), (16, .bool ((thrS va n).there)), (17, .int .i64 0), (18, .int .i64 (tail va)), (19, .int .i64 n.frm), (20, .int .i64 (n.to + (tail va))), (59, .int .i64 0), (60, .bool true), (63, .tuple #[.agg #[.int .i64 ((ThrS va n).inn.lo), .int .i64 ((ThrS va n).inn.hi)], .agg #[.int .i64 ((ThrS va n).out.lo), .int .i64 ((ThrS va n).out.hi)], .bool ((ThrS va n).there), .int .i64 (ThrE va n)]), (64, .int .i64 0), (65, .pointer (some ⟨bk2, 0, none⟩)), (66, .agg #[.int .i64 va.st.lo, .int .i64 va.st.hi, .slice ao1 ((va.runs).length) cap1, .int .i64 va.len, .int .i64 va.wid]), (68, .agg #[.int .i64 n.frm, .int .i64 n.to, .int .i64 n.wid, .bool n.single]), (69, .tuple #[.agg #[.int .i64 ((ThrS va n).inn.lo), .int .i64 ((ThrS va n).inn.hi)], .agg #[.int .i64 ((ThrS va n).out.lo), .int .i64 ((ThrS va n).out.hi)], .bool ((ThrS va n).there), .int .i64 (ThrE va n)]), (70, .agg #[.int .i64 ((ThrS va n).inn.lo), .int .i64 ((ThrS va n).inn.hi)]), (71, .agg #[.int .i64 ((ThrS va n).out.lo), .int .i64 ((ThrS va n).out.hi)]), (72, .bool ((ThrS va n).there)), (73, .int .i64 (ThrE va n)), (74, .int .i64 0), (75, .bool false), (80, .bool ((thrS va n).there)), (81, .bool (!((thrS va n).there))), (90, .int .i64 0), (91, .pointer (some ⟨bk2, 0, none⟩)), (92, .pointer (some ⟨bk2, 3, none⟩)), (93, .int .i64 va.len), (94, .int .i64 (va.len + 99)), (95, .int .i64 (tail va)), (96, .pointer (some ⟨bk7, 0, none⟩)), (97, .int .i64 n.frm), (98, .pointer (some ⟨bk7, 1, none⟩)), (99, .int .i64 n.to), (100, .int .i64 (tail va)), (101, .int .i64 (n.to + (tail va)))] ⟨rfl, rfl, rfl, rfl, rfl, rfl, rfl, rfl, rfl, rfl, rfl, rfl, rfl, rfl, rfl, rfl, rfl, rfl, rfl, rfl, rfl, rfl, rfl, rfl, rfl, rfl, rfl, rfl, rfl, rfl, rfl, rfl, rfl, rfl, rfl, rfl, rfl, rfl, rfl, rfl, rfl, rfl, rfl, rfl, rfl, trivial⟩ (c_drawn follows 15 [some (102, some (.int .i64 0)), some (103, some (.pointer (some ⟨bk2, 0, none⟩))), some (104, some (.pointer (some ⟨bk2, 2, none⟩))), some (105, some (.slice ao1 ((va.runs).length) cap1)), some (106, some (.pointer (some ⟨b1, o1 + 0 * 6, none⟩))), some (107, some (.pointer (some ⟨b1, o1 + 0 * 6 + 1, none⟩))), some (108, some (.int .i64 ((nth va.runs 0).to))), some (109, some (.int .i64 0)), some (110, some (.pointer (some ⟨bk2, 0, none⟩))), some (111, some (.pointer (some ⟨bk2, 2, none⟩))), some (112, some (.slice ao1 ((va.runs).length) cap1)), some (113, some (.pointer (some ⟨b1, o1 + 0 * 6, none⟩))), some (114, some (.pointer (some ⟨b1, o1 + 0 * 6 + 0, none⟩))), some (115, some (.int .i64 ((nth va.runs 0).frm))), some (116, some (.bool (decide ((nth va.runs 0).to < (nth va.runs 0).frm))))] [[],[0],[1],[2],[3],[4],[5],[],[7],[8],[9],[10],[11],[12],[6,13]] (fun _ _ w => Upd (fun _ => False) w357 w) rfl rfl rfl (by kernel_rfl) (by kernel_rfl) (Upd.drew _).to ⟨?_, ?_, ?_, ?_, ?_, ?_, ?_, ?_, ?_, ?_, ?_, ?_, ?_, ?_, ?_, trivial⟩ ?_)
        · exact fun D ρ w _ _ _ hW => ⟨[(13, .int .i64 0)], ⟨fo rfl rfl, trivial⟩, fun Lr => t_move rfl rfl rfl (dz rfl hW)⟩
        ·
         intro D ρ w368 hcD hnD hdD hW
         have zhW := hW.size
         refine ⟨[(3, .pointer (some ⟨bk2, 0, none⟩)), (102, .int .i64 0)], ⟨fo rfl rfl, fi 0 rfl rfl rfl, trivial⟩, fun Lr => ?_⟩
         show WL _ _ _ _ _ _ _ ((3, .pointer (some ⟨bk2, 0, none⟩)) :: (102, .int .i64 0) :: Lr) _
         refine t_indexArr (j := 0) (0) Try.underlying94 Try.sizeOf48 rfl rfl rfl rfl rfl (by decide) rfl ?_
         exact dz rfl hW
        · exact fun D ρ w _ _ _ hW => ⟨[(103, .pointer (some ⟨bk2, 0, none⟩))], ⟨fi 1 rfl rfl rfl, trivial⟩, fun Lr => t_field Try.underlying48 rfl Try.sizeOf46 (2) rfl rfl rfl rfl (dz rfl hW)⟩
        ·
         intro D ρ w371 hcD hnD hdD hW
         have zhW := hW.size
         refine ⟨[(104, .pointer (some ⟨bk2, 2, none⟩))], ⟨fi 2 rfl rfl rfl, trivial⟩, fun Lr => ?_⟩
         show WL _ _ _ _ _ _ _ ((104, .pointer (some ⟨bk2, 2, none⟩)) :: Lr) _
         have B374 := (B365.keep hW (fun h => h))
         refine t_load Try.isAgg46 rfl rfl rfl (B374.get rfl) ?_
         exact dz rfl hW
        ·
         intro D ρ w375 hcD hnD hdD hW
         have zhW := hW.size
         have E377 := E359.next hW (fun _ _ h => h.elim)
         refine ⟨[(105, .slice ao1 ((va.runs).length) cap1)], ⟨fi 3 rfl rfl rfl, trivial⟩, fun Lr => ?_⟩
         show WL _ _ _ _ _ _ _ ((105, .slice ao1 ((va.runs).length) cap1) :: Lr) _
         have i378 : 0 < va.runs.length := (by omega)
         refine t_index (j := 0) Try.underlying46 Try.sizeOf59 rfl rfl rfl rfl ((hs1.keep E377 (fun _ h => h)).addr (by omega)) rfl i378 ?_
         exact dz rfl hW
        · exact fun D ρ w _ _ _ hW => ⟨[(106, .pointer (some ⟨b1, o1 + 0 * 6, none⟩))], ⟨fi 4 rfl rfl rfl, trivial⟩, fun Lr => t_field Try.underlying59 rfl Try.sizeOf3 (o1 + 0 * 6 + 1) rfl rfl rfl rfl (dz rfl hW)⟩
        ·
         intro D ρ w379 hcD hnD hdD hW
         have zhW := hW.size
         have E381 := E359.next hW (fun _ _ h => h.elim)
         refine ⟨[(107, .pointer (some ⟨b1, o1 + 0 * 6 + 1, none⟩))], ⟨fi 5 rfl rfl rfl, trivial⟩, fun Lr => ?_⟩
         show WL _ _ _ _ _ _ _ ((107, .pointer (some ⟨b1, o1 + 0 * 6 + 1, none⟩)) :: Lr) _
         refine t_load Try.isAgg3 rfl rfl rfl (((hs1.keep E381 (fun _ h => h)).at_ 0 (by omega)) 1 _ rfl) ?_
         exact dz rfl hW
        · exact fun D ρ w _ _ _ hW => ⟨[(13, .int .i64 0)], ⟨fo rfl rfl, trivial⟩, fun Lr => t_move rfl rfl rfl (dz rfl hW)⟩
        ·
         intro D ρ w382 hcD hnD hdD hW
         have zhW := hW.size
         refine ⟨[(3, .pointer (some ⟨bk2, 0, none⟩)), (109, .int .i64 0)], ⟨fo rfl rfl, fi 7 rfl rfl rfl, trivial⟩, fun Lr => ?_⟩
         show WL _ _ _ _ _ _ _ ((3, .pointer (some ⟨bk2, 0, none⟩)) :: (109, .int .i64 0) :: Lr) _
         refine t_indexArr (j := 0) (0) Try.underlying94 Try.sizeOf48 rfl rfl rfl rfl rfl (by decide) rfl ?_
         exact dz rfl hW
        · exact fun D ρ w _ _ _ hW => ⟨[(110, .pointer (some ⟨bk2, 0, none⟩))], ⟨fi 8 rfl rfl rfl, trivial⟩, fun Lr => t_field Try.underlying48 rfl Try.sizeOf46 (2) rfl rfl rfl rfl (dz rfl hW)⟩
        ·
         intro D ρ w385 hcD hnD hdD hW
         have zhW := hW.size
         refine ⟨[(111, .pointer (some ⟨bk2, 2, none⟩))], ⟨fi 9 rfl rfl rfl, trivial⟩, fun Lr => ?_⟩
         show WL _ _ _ _ _ _ _ ((111, .pointer (some ⟨bk2, 2, none⟩)) :: Lr) _
         have B388 := (B365.keep hW (fun h => h))
         refine t_load Try.isAgg46 rfl rfl rfl (B388.get rfl) ?_
         exact dz rfl hW
        ·
         intro D ρ w389 hcD hnD hdD hW
         have zhW := hW.size
         have E391 := E359.next hW (fun _ _ h => h.elim)
         refine ⟨[(112, .slice ao1 ((va.runs).length) cap1)], ⟨fi 10 rfl rfl rfl, trivial⟩, fun Lr => ?_⟩
         show WL _ _ _ _ _ _ _ ((112, .slice ao1 ((va.runs).length) cap1) :: Lr) _
         have i392 : 0 < va.runs.length := (by omega)
         refine t_index (j := 0) Try.underlying46 Try.sizeOf59 rfl rfl rfl rfl ((hs1.keep E391 (fun _ h => h)).addr (by omega)) rfl i392 ?_
         exact dz rfl hW
        · exact fun D ρ w _ _ _ hW => ⟨[(113, .pointer (some ⟨b1, o1 + 0 * 6, none⟩))], ⟨fi 11 rfl rfl rfl, trivial⟩, fun Lr => t_field Try.underlying59 rfl Try.sizeOf3 (o1 + 0 * 6 + 0) rfl rfl rfl rfl (dz rfl hW)⟩
        ·
         intro D ρ w393 hcD hnD hdD hW
         have zhW := hW.size
         have E395 := E359.next hW (fun _ _ h => h.elim)
         refine ⟨[(114, .pointer (some ⟨b1, o1 + 0 * 6 + 0, none⟩))], ⟨fi 12 rfl rfl rfl, trivial⟩, fun Lr => ?_⟩
         show WL _ _ _ _ _ _ _ ((114, .pointer (some ⟨b1, o1 + 0 * 6 + 0, none⟩)) :: Lr) _
         refine t_load Try.isAgg3 rfl rfl rfl (((hs1.keep E395 (fun _ h => h)).at_ 0 (by omega)) 0 _ rfl) ?_
         exact dz rfl hW
        · exact fun D ρ w _ _ _ hW => ⟨[(108, .int .i64 ((nth va.runs 0).to)), (115, .int .i64 ((nth va.runs 0).frm))], ⟨fi 6 rfl rfl rfl, fi 13 rfl rfl rfl, trivial⟩, fun Lr => t_cmp rfl rfl rfl rfl rfl (dz rfl hW)⟩
        intro ρ w396 hW
        have u397 : Upd (fun _ => False) w357 w396 := hW
        have zu397 := u397.size
        refine QK.weak [(3, .pointer (some ⟨bk2, 0, none⟩)), (4, .pointer (some ⟨bk7, 0, none⟩)), (5, .pointer (some ⟨bk12, 0, none⟩)), (6, .bool false), (7, .bool (MeetOk va vb n && mayB (thrS va n) (thrS vb n))), (8, .bool (MeetOk va vb n && mustB (thrS va n) (thrS vb n))), (10, .pointer (some ⟨bk148, 0, none⟩)), (11, .pointer (some ⟨bk153, 0, none⟩)), (12, .bool ((thrS va n).there)), (13, .int .i64 0), (14, .pointer (some ⟨bk192, 0, none⟩)), (15, .pointer (some ⟨bk197, 0, none⟩)), (16, .bool ((thrS va n).there)), (17, .int .i64 0), (18, .int .i64 (tail va)), (19, .int .i64 n.frm), (20, .int .i64 (n.to + (tail va))), (59, .int .i64 0), (60, .bool true), (63, .tuple #[.agg #[.int .i64 ((ThrS va n).inn.lo), .int .i64 ((ThrS va n).inn.hi)], .agg #[.int .i64 ((ThrS va n).out.lo), .int .i64 ((ThrS va n).out.hi)], .bool ((ThrS va n).there), .int .i64 (ThrE va n)]), (64, .int .i64 0), (65, .pointer (some ⟨bk2, 0, none⟩)), (66, .agg #[.int .i64 va.st.lo, .int .i64 va.st.hi, .slice ao1 ((va.runs).length) cap1, .int .i64 va.len, .int .i64 va.wid]), (68, .agg #[.int .i64 n.frm, .int .i64 n.to, .int .i64 n.wid, .bool n.single]), (69, .tuple #[.agg #[.int .i64 ((ThrS va n).inn.lo), .int .i64 ((ThrS va n).inn.hi)], .agg #[.int .i64 ((ThrS va n).out.lo), .int .i64 ((ThrS va n).out.hi)], .bool ((ThrS va n).there), .int .i64 (ThrE va n)]), (70, .agg #[.int .i64 ((ThrS va n).inn.lo), .int .i64 ((ThrS va n).inn.hi)]), (71, .agg #[.int .i64 ((ThrS va n).out.lo), .int .i64 ((ThrS va n).out.hi)]), (72, .bool ((ThrS va n).there)), (73, .int .i64 (ThrE va n)), (74, .int .i64 0), (75, .bool false), (80, .bool ((thrS va n).there)), (81, .bool (!((thrS va n).there))), (90, .int .i64 0), (91, .pointer (some ⟨bk2, 0, none⟩)), (92, .pointer (some ⟨bk2, 3, none⟩)), (93, .int .i64 va.len), (94, .int .i64 (va.len + 99)), (95, .int .i64 (tail va)), (96, .pointer (some ⟨bk7, 0, none⟩)), (97, .int .i64 n.frm), (98, .pointer (some ⟨bk7, 1, none⟩)), (99, .int .i64 n.to), (100, .int .i64 (tail va)), (101, .int .i64 (n.to + (tail va))), (102, .int .i64 0), (103, .pointer (some ⟨bk2, 0, none⟩)), (104, .pointer (some ⟨bk2, 2, none⟩)), (105, .slice ao1 ((va.runs).length) cap1), (106, .pointer (some ⟨b1, o1 + 0 * 6, none⟩)), (107, .pointer (some ⟨b1, o1 + 0 * 6 + 1, none⟩)), (108, .int .i64 ((nth va.runs 0).to)), (109, .int .i64 0), (110, .pointer (some ⟨bk2, 0, none⟩)), (111, .pointer (some ⟨bk2, 2, none⟩)), (112, .slice ao1 ((va.runs).length) cap1), (113, .pointer (some ⟨b1, o1 + 0 * 6, none⟩)), (114, .pointer (some ⟨b1, o1 + 0 * 6 + 0, none⟩)), (115, .int .i64 ((nth va.runs 0).frm)), (116, .bool (decide ((nth va.runs 0).to < (nth va.runs 0).frm)))] ⟨rfl, rfl, rfl, rfl, rfl, rfl, rfl, rfl, rfl, rfl, rfl, rfl, rfl, rfl, rfl, rfl, rfl, rfl, rfl, rfl, rfl, rfl, rfl, rfl, rfl, rfl, rfl, rfl, rfl, rfl, rfl, rfl, rfl, rfl, rfl, rfl, rfl, rfl, rfl, rfl, rfl, rfl, rfl, rfl, rfl, rfl, rfl, rfl, rfl, rfl, rfl, rfl, rfl, rfl, rfl, rfl, rfl, rfl, rfl, rfl, trivial⟩ (hK364 _ _ (c_condp rfl (fun g116 => ?_) (fun g116 => ?_)))
        ·
         have B399 := ((B345.keep u358 (fun h => h)).keep u397 (fun h => h))
         refine WC.weak [(3, .pointer (some ⟨bk2, 0, none⟩)), (4, .pointer (some ⟨bk7, 0, none⟩)), (5, .pointer (some ⟨bk12, 0, none⟩)), (6, .bool false), (7, .bool (MeetOk va vb n && mayB (thrS va n) (thrS vb n))), (8, .bool (MeetOk va vb n && mustB (thrS va n) (thrS vb n))), (10, .pointer (some ⟨bk148, 0, none⟩)), (11, .pointer (some ⟨bk153, 0, none⟩)), (12, .bool ((thrS va n).there)), (13, .int .i64 0), (14, .pointer (some ⟨bk192, 0, none⟩)), (15, .pointer (some ⟨bk197, 0, none⟩)), (16, .bool ((thrS va n).there)), (17, .int .i64 0), (18, .int .i64 (tail va)), (19, .int .i64 n.frm), (20, .int .i64 (n.to + (tail va))), (59, .int .i64 0), (60, .bool true), (63, .tuple #[.agg #[.int .i64 ((ThrS va n).inn.lo), .int .i64 ((ThrS va n).inn.hi)], .agg #[.int .i64 ((ThrS va n).out.lo), .int .i64 ((ThrS va n).out.hi)], .bool ((ThrS va n).there), .int .i64 (ThrE va n)]), (64, .int .i64 0), (65, .pointer (some ⟨bk2, 0, none⟩)), (66, .agg #[.int .i64 va.st.lo, .int .i64 va.st.hi, .slice ao1 ((va.runs).length) cap1, .int .i64 va.len, .int .i64 va.wid]), (68, .agg #[.int .i64 n.frm, .int .i64 n.to, .int .i64 n.wid, .bool n.single]), (69, .tuple #[.agg #[.int .i64 ((ThrS va n).inn.lo), .int .i64 ((ThrS va n).inn.hi)], .agg #[.int .i64 ((ThrS va n).out.lo), .int .i64 ((ThrS va n).out.hi)], .bool ((ThrS va n).there), .int .i64 (ThrE va n)]), (70, .agg #[.int .i64 ((ThrS va n).inn.lo), .int .i64 ((ThrS va n).inn.hi)]), (71, .agg #[.int .i64 ((ThrS va n).out.lo), .int .i64 ((ThrS va n).out.hi)]), (72, .bool ((ThrS va n).there)), (73, .int .i64 (ThrE va n)), (74, .int .i64 0), (75, .bool false), (80, .bool ((thrS va n).there)), (81, .bool (!((thrS va n).there))), (90, .int .i64 0), (91, .pointer (some ⟨bk2, 0, none⟩)), (92, .pointer (some ⟨bk2, 3, none⟩)), (93, .int .i64 va.len), (94, .int .i64 (va.len + 99)), (95, .int .i64 (tail va)), (96, .pointer (some ⟨bk7, 0, none⟩)), (97, .int .i64 n.frm), (98, .pointer (some ⟨bk7, 1, none⟩)), (99, .int .i64 n.to), (100, .int .i64 (tail va)), (101, .int .i64 (n.to + (tail va))), (102, .int .i64 0), (103, .pointer (some ⟨bk2, 0, none⟩)), (104, .pointer (some ⟨bk2, 2, none⟩)), (105, .slice ao1 ((va.runs).length) cap1), (106, .pointer (some ⟨b1, o1 + 0 * 6, none⟩)), (107, .pointer (some ⟨b1, o1 + 0 * 6 + 1, none⟩)), (108, .int .i64 ((nth va.runs 0).to)), (109, .int .i64 0), (110, .pointer (some ⟨bk2, 0, none⟩)), (111, .pointer (some ⟨bk2, 2, none⟩)), (112, .slice ao1 ((va.runs).length) cap1), (113, .pointer (some ⟨b1, o1 + 0 * 6, none⟩)), (114, .pointer (some ⟨b1, o1 + 0 * 6 + 0, none⟩)), (115, .int .i64 ((nth va.runs 0).frm)), (116, .bool (decide ((nth va.runs 0).to < (nth va.runs 0).frm)))] ⟨rfl, rfl, rfl, rfl, rfl, rfl, rfl, rfl, rfl, rfl, rfl, rfl, rfl, rfl, rfl, rfl, rfl, rfl, rfl, rfl, rfl, rfl, rfl, rfl, rfl, rfl, rfl, rfl, rfl, rfl, rfl, rfl, rfl, rfl, rfl, rfl, rfl, rfl, rfl, rfl, rfl, rfl, rfl, rfl, rfl, rfl, rfl, rfl, rfl, rfl, rfl, rfl, rfl, rfl, rfl, rfl, rfl, rfl, rfl, rfl, trivial⟩ (c_drawn follows 8 [some (117, some (.pointer (some ⟨bk7, 1, none⟩))), some (118, some (.int .i64 n.to)), some (119, some (.pointer (some ⟨bk7, 0, none⟩))), some (120, some (.int .i64 n.frm)), some (121, some (.int .i64 (tail va))), some (122, some (.int .i64 (n.frm - (tail va)))), some (19, some (.int .i64 n.to)), some (20, some (.int .i64 (n.frm - (tail va))))] [[],[0],[],[2],[],[3,4],[1,0,1],[5,6,0,1,2,3,4,5,6]] (fun _ _ w => Upd (fun _ => False) w396 w) rfl rfl rfl (by kernel_rfl) (by kernel_rfl) (Upd.drew _).to ⟨?_, ?_, ?_, ?_, ?_, ?_, ?_, ?_, trivial⟩ ?_)
         · exact fun D ρ w _ _ _ hW => ⟨[(4, .pointer (some ⟨bk7, 0, none⟩))], ⟨fo rfl rfl, trivial⟩, fun Lr => t_field Try.underlying72 rfl Try.sizeOf3 (1) rfl rfl rfl rfl (dz rfl hW)⟩
         ·
          intro D ρ w400 hcD hnD hdD hW
          have zhW := hW.size
          refine ⟨[(117, .pointer (some ⟨bk7, 1, none⟩))], ⟨fi 0 rfl rfl rfl, trivial⟩, fun Lr => ?_⟩
          show WL _ _ _ _ _ _ _ ((117, .pointer (some ⟨bk7, 1, none⟩)) :: Lr) _
          have B403 := (B399.keep hW (fun h => h))
          refine t_load Try.isAgg3 rfl rfl rfl (B403.get rfl) ?_
          exact dz rfl hW
         · exact fun D ρ w _ _ _ hW => ⟨[(4, .pointer (some ⟨bk7, 0, none⟩))], ⟨fo rfl rfl, trivial⟩, fun Lr => t_field Try.underlying72 rfl Try.sizeOf3 (0) rfl rfl rfl rfl (dz rfl hW)⟩
         ·
          intro D ρ w404 hcD hnD hdD hW
          have zhW := hW.size
          refine ⟨[(119, .pointer (some ⟨bk7, 0, none⟩))], ⟨fi 2 rfl rfl rfl, trivial⟩, fun Lr => ?_⟩
          show WL _ _ _ _ _ _ _ ((119, .pointer (some ⟨bk7, 0, none⟩)) :: Lr) _
          have B407 := (B399.keep hW (fun h => h))
          refine t_load Try.isAgg3 rfl rfl rfl (B407.get rfl) ?_
          exact dz rfl hW
         · exact fun D ρ w _ _ _ hW => ⟨[(18, .int .i64 (tail va))], ⟨fo rfl rfl, trivial⟩, fun Lr => t_move rfl rfl rfl (dz rfl hW)⟩
         ·
          intro D ρ w408 hcD hnD hdD hW
          have zhW := hW.size
          refine ⟨[(120, .int .i64 n.frm), (121, .int .i64 (tail va))], ⟨fi 3 rfl rfl rfl, fi 4 rfl rfl rfl, trivial⟩, fun Lr => ?_⟩
          show WL _ _ _ _ _ _ _ ((120, .int .i64 n.frm) :: (121, .int .i64 (tail va)) :: Lr) _
          refine t_ari rfl rfl rfl rfl rfl (by omega) ?_
          exact dz rfl hW
         · exact fun D ρ w _ _ _ hW => ⟨[(118, .int .i64 n.to)], ⟨fi 1 rfl rfl rfl, trivial⟩, fun Lr => t_assign rfl rfl rfl (dz rfl hW)⟩
         · exact fun D ρ w _ _ _ hW => ⟨[(122, .int .i64 (n.frm - (tail va)))], ⟨fi 5 rfl rfl rfl, trivial⟩, fun Lr => t_assign rfl rfl rfl (dz rfl hW)⟩
         intro ρ w411 hW
         have u412 : Upd (fun _ => False) w396 w411 := hW
         have zu412 := u412.size
         refine QK.weak [(3, .pointer (some ⟨bk2, 0, none⟩)), (4, .pointer (some ⟨bk7, 0, none⟩)), (5, .pointer (some ⟨bk12, 0, none⟩)), (6, .bool false), (7, .bool (MeetOk va vb n && mayB (thrS va n) (thrS vb n))), (8, .bool (MeetOk va vb n && mustB (thrS va n) (thrS vb n))), (10, .pointer (some ⟨bk148, 0, none⟩)), (11, .pointer (some ⟨bk153, 0, none⟩)), (12, .bool ((thrS va n).there)), (13, .int .i64 0), (14, .pointer (some ⟨bk192, 0, none⟩)), (15, .pointer (some ⟨bk197, 0, none⟩)), (16, .bool ((thrS va n).there)), (17, .int .i64 0), (18, .int .i64 (tail va)), (19, .int .i64 n.to), (20, .int .i64 (n.frm - (tail va))), (59, .int .i64 0), (60, .bool true), (63, .tuple #[.agg #[.int .i64 ((ThrS va n).inn.lo), .int .i64 ((ThrS va n).inn.hi)], .agg #[.int .i64 ((ThrS va n).out.lo), .int .i64 ((ThrS va n).out.hi)], .bool ((ThrS va n).there), .int .i64 (ThrE va n)]), (64, .int .i64 0), (65, .pointer (some ⟨bk2, 0, none⟩)), (66, .agg #[.int .i64 va.st.lo, .int .i64 va.st.hi, .slice ao1 ((va.runs).length) cap1, .int .i64 va.len, .int .i64 va.wid]), (68, .agg #[.int .i64 n.frm, .int .i64 n.to, .int .i64 n.wid, .bool n.single]), (69, .tuple #[.agg #[.int .i64 ((ThrS va n).inn.lo), .int .i64 ((ThrS va n).inn.hi)], .agg #[.int .i64 ((ThrS va n).out.lo), .int .i64 ((ThrS va n).out.hi)], .bool ((ThrS va n).there), .int .i64 (ThrE va n)]), (70, .agg #[.int .i64 ((ThrS va n).inn.lo), .int .i64 ((ThrS va n).inn.hi)]), (71, .agg #[.int .i64 ((ThrS va n).out.lo), .int .i64 ((ThrS va n).out.hi)]), (72, .bool ((ThrS va n).there)), (73, .int .i64 (ThrE va n)), (74, .int .i64 0), (75, .bool false), (80, .bool ((thrS va n).there)), (81, .bool (!((thrS va n).there))), (90, .int .i64 0), (91, .pointer (some ⟨bk2, 0, none⟩)), (92, .pointer (some ⟨bk2, 3, none⟩)), (93, .int .i64 va.len), (94, .int .i64 (va.len + 99)), (95, .int .i64 (tail va)), (96, .pointer (some ⟨bk7, 0, none⟩)), (97, .int .i64 n.frm), (98, .pointer (some ⟨bk7, 1, none⟩)), (99, .int .i64 n.to), (100, .int .i64 (tail va)), (101, .int .i64 (n.to + (tail va))), (102, .int .i64 0), (103, .pointer (some ⟨bk2, 0, none⟩)), (104, .pointer (some ⟨bk2, 2, none⟩)), (105, .slice ao1 ((va.runs).length) cap1), (106, .pointer (some ⟨b1, o1 + 0 * 6, none⟩)), (107, .pointer (some ⟨b1, o1 + 0 * 6 + 1, none⟩)), (108, .int .i64 ((nth va.runs 0).to)), (109, .int .i64 0), (110, .pointer (some ⟨bk2, 0, none⟩)), (111, .pointer (some ⟨bk2, 2, none⟩)), (112, .slice ao1 ((va.runs).length) cap1), (113, .pointer (some ⟨b1, o1 + 0 * 6, none⟩)), (114, .pointer (some ⟨b1, o1 + 0 * 6 + 0, none⟩)), (115, .int .i64 ((nth va.runs 0).frm)), (116, .bool (decide ((nth va.runs 0).to < (nth va.runs 0).frm))), (117, .pointer (some ⟨bk7, 1, none⟩)), (118, .int .i64 n.to), (119, .pointer (some ⟨bk7, 0, none⟩)), (120, .int .i64 n.frm), (121, .int .i64 (tail va)), (122, .int .i64 (n.frm - (tail va)))] ⟨rfl, rfl, rfl, rfl, rfl, rfl, rfl, rfl, rfl, rfl, rfl, rfl, rfl, rfl, rfl, rfl, rfl, rfl, rfl, rfl, rfl, rfl, rfl, rfl, rfl, rfl, rfl, rfl, rfl, rfl, rfl, rfl, rfl, rfl, rfl, rfl, rfl, rfl, rfl, rfl, rfl, rfl, rfl, rfl, rfl, rfl, rfl, rfl, rfl, rfl, rfl, rfl, rfl, rfl, rfl, rfl, rfl, rfl, rfl, rfl, rfl, rfl, rfl, rfl, rfl, rfl, trivial⟩ ?_
         exact hK361 () _ _ ⟨rfl, rfl, rfl, rfl, rfl, rfl, rfl, rfl, rfl, rfl, rfl, rfl, rfl, rfl, rfl, (by exact congrArg some (congrArg (Value.int .i64) (by unfold entP; rw [if_pos ((way_lt hk1).1 g116)]))), (by exact congrArg some (congrArg (Value.int .i64) (by unfold leaP; rw [if_pos ((way_lt hk1).1 g116)]))), rfl, rfl, rfl, rfl, rfl, rfl, rfl, rfl, rfl, rfl, rfl, rfl, rfl, rfl, rfl, rfl, rfl, rfl, rfl, rfl, rfl, rfl, rfl, rfl, rfl, rfl, rfl, rfl, trivial⟩ (((Upd.refl _ _).next u397 (fun _ _ h => h.elim)).next u412 (fun _ _ h => h.elim))
        ·
         refine c_skip ?_
         exact hK361 () _ _ ⟨rfl, rfl, rfl, rfl, rfl, rfl, rfl, rfl, rfl, rfl, rfl, rfl, rfl, rfl, rfl, (by exact congrArg some (congrArg (Value.int .i64) (by unfold entP; rw [if_neg (fun h => g116 ((way_lt hk1).2 h))]))), (by exact congrArg some (congrArg (Value.int .i64) (by unfold leaP; rw [if_neg (fun h => g116 ((way_lt hk1).2 h))]))), rfl, rfl, rfl, rfl, rfl, rfl, rfl, rfl, rfl, rfl, rfl, rfl, rfl, rfl, rfl, rfl, rfl, rfl, rfl, rfl, rfl, rfl, rfl, rfl, rfl, rfl, rfl, rfl, trivial⟩ ((Upd.refl _ _).next u397 (fun _ _ h => h.elim))
       ·
        intro _x w362 u363
        have zu363 := u363.size
        have E414 := E359.next u363 (fun _ _ h => h.elim)
        refine c_seq fun K415 hK415 => ?_
        have B416 := ((B343.keep u358 (fun h => h)).keep u363 (fun h => h))
        have B417 := (((((((((((B14.keep u22 (fun h => h)).keep u34 (fun h => h)).keep u133 (fun h => h)).keep u151 (fun h => h)).keep u156 (fun h => h)).keep u160 (show ¬ (bk12 = bk148) by first | omega | assumption)).keep u165 (show ¬ (bk12 = bk153) by first | omega | assumption)).keep u306 (fun h => h)).keep u325 (fun h => h)).keep u358 (fun h => h)).keep u363 (fun h => h))
        have B418 := (((((B161.keep u165 (show ¬ (bk148 = bk153) by first | omega | assumption)).keep u306 (fun h => h)).keep u325 (fun h => h)).keep u358 (fun h => h)).keep u363 (fun h => h))
        have B419 := ((((B166.keep u306 (fun h => h)).keep u325 (fun h => h)).keep u358 (fun h => h)).keep u363 (fun h => h))
        refine WC.weak [(3, .pointer (some ⟨bk2, 0, none⟩)), (4, .pointer (some ⟨bk7, 0, none⟩)), (5, .pointer (some ⟨bk12, 0, none⟩)), (6, .bool false), (7, .bool (MeetOk va vb n && mayB (thrS va n) (thrS vb n))), (8, .bool (MeetOk va vb n && mustB (thrS va n) (thrS vb n))), (10, .pointer (some ⟨bk148, 0, none⟩)), (11, .pointer (some ⟨bk153, 0, none⟩)), (12, .bool ((thrS va n).there)), (13, .int .i64 0), (14, .pointer (some ⟨bk192, 0, none⟩)), (15, .pointer (some ⟨bk197, 0, none⟩)), (16, .bool ((thrS va n).there)), (17, .int .i64 0), (18, .int .i64 (tail va)), (19, .int .i64 (entP va n)), (20, .int .i64 (leaP va n)), (59, .int .i64 0), (60, .bool true), (63, .tuple #[.agg #[.int .i64 ((ThrS va n).inn.lo), .int .i64 ((ThrS va n).inn.hi)], .agg #[.int .i64 ((ThrS va n).out.lo), .int .i64 ((ThrS va n).out.hi)], .bool ((ThrS va n).there), .int .i64 (ThrE va n)]), (64, .int .i64 0), (65, .pointer (some ⟨bk2, 0, none⟩)), (66, .agg #[.int .i64 va.st.lo, .int .i64 va.st.hi, .slice ao1 ((va.runs).length) cap1, .int .i64 va.len, .int .i64 va.wid]), (68, .agg #[.int .i64 n.frm, .int .i64 n.to, .int .i64 n.wid, .bool n.single]), (69, .tuple #[.agg #[.int .i64 ((ThrS va n).inn.lo), .int .i64 ((ThrS va n).inn.hi)], .agg #[.int .i64 ((ThrS va n).out.lo), .int .i64 ((ThrS va n).out.hi)], .bool ((ThrS va n).there), .int .i64 (ThrE va n)]), (70, .agg #[.int .i64 ((ThrS va n).inn.lo), .int .i64 ((ThrS va n).inn.hi)]), (71, .agg #[.int .i64 ((ThrS va n).out.lo), .int .i64 ((ThrS va n).out.hi)]), (72, .bool ((ThrS va n).there)), (73, .int .i64 (ThrE va n)), (74, .int .i64 0), (75, .bool false), (80, .bool ((thrS va n).there)), (81, .bool (!((thrS va n).there))), (90, .int .i64 0), (91, .pointer (some ⟨bk2, 0, none⟩)), (92, .pointer (some ⟨bk2, 3, none⟩)), (93, .int .i64 va.len), (94, .int .i64 (va.len + 99)), (95, .int .i64 (tail va)), (96, .pointer (some ⟨bk7, 0, none⟩)), (97, .int .i64 n.frm), (98, .pointer (some ⟨bk7, 1, none⟩)), (99, .int .i64 n.to), (100, .int .i64 (tail va)), (101, .int .i64 (n.to + (tail va)))] ⟨rfl, rfl, rfl, rfl, rfl, rfl, rfl, rfl, rfl, rfl, rfl, rfl, rfl, rfl, rfl, rfl, rfl, rfl, rfl, rfl, rfl, rfl, rfl, rfl, rfl, rfl, rfl, rfl, rfl, rfl, rfl, rfl, rfl, rfl, rfl, rfl, rfl, rfl, rfl, rfl, rfl, rfl, rfl, rfl, rfl, trivial⟩ (c_drawn follows 22 [some (123, some (.int .i64 0)), some (124, some (.int .i64 0)), some (125, some (.int .i64 0)), some (126, some (.pointer (some ⟨bk2, 0, none⟩))), some (127, some (.agg #[.int .i64 va.st.lo, .int .i64 va.st.hi, .slice ao1 ((va.runs).length) cap1, .int .i64 va.len, .int .i64 va.wid])), some (128, some (.int .i64 0)), some (129, some (.pointer (some ⟨bk12, 0, none⟩))), some (130, some (.agg #[.int .u8 s0, .slice ap0 tp0.length cp0, .slice aw0 tw0.length cw0])), some (131, some (.int .i64 (entP va n))), some (132, some (.int .i64 (tru va s0 tp0 tw0 (entP va n)))), some (133, some (.int .i64 0)), some (134, some (.pointer (some ⟨bk2, 0, none⟩))), some (135, some (.agg #[.int .i64 va.st.lo, .int .i64 va.st.hi, .slice ao1 ((va.runs).length) cap1, .int .i64 va.len, .int .i64 va.wid])), some (136, some (.int .i64 0)), some (137, some (.pointer (some ⟨bk12, 0, none⟩))), some (138, some (.agg #[.int .u8 s0, .slice ap0 tp0.length cp0, .slice aw0 tw0.length cw0])), some (139, some (.int .i64 (leaP va n))), some (140, some (.int .i64 (tru va s0 tp0 tw0 (leaP va n)))), some (141, some (.pointer (some ⟨bk148, 0, none⟩))), none, some (142, some (.pointer (some ⟨bk153, 0, none⟩))), none] [[],[],[],[2],[3],[],[5],[6],[],[4,7,8],[],[10],[11],[],[13],[14],[],[12,15,16,9],[0,0,2,3,4,5,6,7,8,9],[18,9,17,0,2,3,4,5,6,7,8,9],[1,0,1,2,3,4,5,6,7,8,9,10,11,12,13,14,15,16,17,18,19],[20,17,19,0,1,2,3,4,5,6,7,8,9,10,11,12,13,14,15,16,17,18,19]] (fun D _ w => Upd (fun i => i = bk148 ∨ i = bk153) w362 w ∧ Blk w bk148 82 [(bif D 19 then .int .i64 (tru va s0 tp0 tw0 (entP va n)) else .int .i64 0), .int .i64 0] ∧ Blk w bk153 82 [(bif D 21 then .int .i64 (tru va s0 tp0 tw0 (leaP va n)) else .int .i64 0), .int .i64 0]) rfl rfl rfl (by kernel_rfl) (by kernel_rfl) ⟨(Upd.drew _).to, (B418.keep (Upd.drew _) (fun h => h)), (B419.keep (Upd.drew _) (fun h => h))⟩ ⟨?_, ?_, ?_, ?_, ?_, ?_, ?_, ?_, ?_, ?_, ?_, ?_, ?_, ?_, ?_, ?_, ?_, ?_, ?_, ?_, ?_, ?_, trivial⟩ ?_)
        · exact fun D ρ w _ _ _ hW => ⟨[(13, .int .i64 0)], ⟨fo rfl rfl, trivial⟩, fun Lr => t_move rfl rfl rfl (dz rfl hW)⟩
        · exact fun D ρ w _ _ _ hW => ⟨[(13, .int .i64 0)], ⟨fo rfl rfl, trivial⟩, fun Lr => t_move rfl rfl rfl (dz rfl hW)⟩
        · exact fun D ρ w _ _ _ hW => ⟨[(13, .int .i64 0)], ⟨fo rfl rfl, trivial⟩, fun Lr => t_move rfl rfl rfl (dz rfl hW)⟩
        ·
         intro D ρ w432 hcD hnD hdD hW
         obtain ⟨u433, B434, B435⟩ := hW
         have zu433 := u433.size
         have d19 := hcD.late 19 hnD rfl
         have B437 := B434
         simp only [d19, cond_false] at B437
         have d21 := hcD.late 21 hnD rfl
         have B438 := B435
         simp only [d21, cond_false] at B438
         refine ⟨[(3, .pointer (some ⟨bk2, 0, none⟩)), (125, .int .i64 0)], ⟨fo rfl rfl, fi 2 rfl rfl rfl, trivial⟩, fun Lr => ?_⟩
         show WL _ _ _ _ _ _ _ ((3, .pointer (some ⟨bk2, 0, none⟩)) :: (125, .int .i64 0) :: Lr) _
         refine t_indexArr (j := 0) (0) Try.underlying94 Try.sizeOf48 rfl rfl rfl rfl rfl (by decide) rfl ?_
         exact dz rfl ⟨u433, B434, B435⟩
        ·
         intro D ρ w439 hcD hnD hdD hW
         obtain ⟨u440, B441, B442⟩ := hW
         have zu440 := u440.size
         have d19 := hcD.late 19 hnD rfl
         have B444 := B441
         simp only [d19, cond_false] at B444
         have d21 := hcD.late 21 hnD rfl
         have B445 := B442
         simp only [d21, cond_false] at B445
         refine ⟨[(126, .pointer (some ⟨bk2, 0, none⟩))], ⟨fi 3 rfl rfl rfl, trivial⟩, fun Lr => ?_⟩
         show WL _ _ _ _ _ _ _ ((126, .pointer (some ⟨bk2, 0, none⟩)) :: Lr) _
         have B446 := (B416.keep u440 (show ¬ (bk2 = bk148 ∨ bk2 = bk153) by first | omega | assumption))
         refine t_loadN (vs := [.int .i64 va.st.lo, .int .i64 va.st.hi, .slice ao1 ((va.runs).length) cap1, .int .i64 va.len, .int .i64 va.wid]) Try.isAgg48 Try.sizeOf48 rfl rfl rfl (B446.at.sub 0 5) rfl ?_
         exact dz rfl ⟨u440, B441, B442⟩
        · exact fun D ρ w _ _ _ hW => ⟨[(13, .int .i64 0)], ⟨fo rfl rfl, trivial⟩, fun Lr => t_move rfl rfl rfl (dz rfl hW)⟩
        ·
         intro D ρ w447 hcD hnD hdD hW
         obtain ⟨u448, B449, B450⟩ := hW
         have zu448 := u448.size
         have d19 := hcD.late 19 hnD rfl
         have B452 := B449
         simp only [d19, cond_false] at B452
         have d21 := hcD.late 21 hnD rfl
         have B453 := B450
         simp only [d21, cond_false] at B453
         refine ⟨[(5, .pointer (some ⟨bk12, 0, none⟩)), (128, .int .i64 0)], ⟨fo rfl rfl, fi 5 rfl rfl rfl, trivial⟩, fun Lr => ?_⟩
         show WL _ _ _ _ _ _ _ ((5, .pointer (some ⟨bk12, 0, none⟩)) :: (128, .int .i64 0) :: Lr) _
         refine t_indexArr (j := 0) (0) Try.underlying97 Try.sizeOf96 rfl rfl rfl rfl rfl (by decide) rfl ?_
         exact dz rfl ⟨u448, B449, B450⟩
        ·
         intro D ρ w454 hcD hnD hdD hW
         obtain ⟨u455, B456, B457⟩ := hW
         have zu455 := u455.size
         have d19 := hcD.late 19 hnD rfl
         have B459 := B456
         simp only [d19, cond_false] at B459
         have d21 := hcD.late 21 hnD rfl
         have B460 := B457
         simp only [d21, cond_false] at B460
         refine ⟨[(129, .pointer (some ⟨bk12, 0, none⟩))], ⟨fi 6 rfl rfl rfl, trivial⟩, fun Lr => ?_⟩
         show WL _ _ _ _ _ _ _ ((129, .pointer (some ⟨bk12, 0, none⟩)) :: Lr) _
         have B461 := (B417.keep u455 (show ¬ (bk12 = bk148 ∨ bk12 = bk153) by first | omega | assumption))
         refine t_loadN (vs := [.int .u8 s0, .slice ap0 tp0.length cp0, .slice aw0 tw0.length cw0]) Try.isAgg96 Try.sizeOf96 rfl rfl rfl (B461.at.sub 0 3) rfl ?_
         exact dz rfl ⟨u455, B456, B457⟩
        · exact fun D ρ w _ _ _ hW => ⟨[(19, .int .i64 (entP va n))], ⟨fo rfl rfl, trivial⟩, fun Lr => t_move rfl rfl rfl (dz rfl hW)⟩
        ·
         intro D ρ w462 hcD hnD hdD hW
         obtain ⟨u463, B464, B465⟩ := hW
         have zu463 := u463.size
         have E466 := E414.next u463 (fun i hi (h : i = bk148 ∨ i = bk153) => show False by first | omega | assumption)
         have d19 := hcD.late 19 hnD rfl
         have B467 := B464
         simp only [d19, cond_false] at B467
         have d21 := hcD.late 21 hnD rfl
         have B468 := B465
         simp only [d21, cond_false] at B468
         refine ⟨[(127, .agg #[.int .i64 va.st.lo, .int .i64 va.st.hi, .slice ao1 ((va.runs).length) cap1, .int .i64 va.len, .int .i64 va.wid]), (130, .agg #[.int .u8 s0, .slice ap0 tp0.length cp0, .slice aw0 tw0.length cw0]), (131, .int .i64 (entP va n))], ⟨fi 4 rfl rfl rfl, fi 7 rfl rfl rfl, fi 8 rfl rfl rfl, trivial⟩, fun Lr => ?_⟩
         show WL _ _ _ _ _ _ _ ((127, .agg #[.int .i64 va.st.lo, .int .i64 va.st.hi, .slice ao1 ((va.runs).length) cap1, .int .i64 va.len, .int .i64 va.wid]) :: (130, .agg #[.int .u8 s0, .slice ap0 tp0.length cp0, .slice aw0 tw0.length cw0]) :: (131, .int .i64 (entP va n)) :: Lr) _
         refine t_call (vs := [.agg #[.int .i64 va.st.lo, .int .i64 va.st.hi, .slice ao1 ((va.runs).length) cap1, .int .i64 va.len, .int .i64 va.wid], .agg #[.int .u8 s0, .slice ap0 tp0.length cp0, .slice aw0 tw0.length cw0], .int .i64 (entP va n)]) own51 rfl rfl rfl rfl (truly_c va ao1 b1 o1 cap1 s0 tp0 tw0 ap0 bp0 op0 cp0 aw0 bw0 ow0 cw0 (entP va n) _ (hs1.keep E466 (fun _ h => h)) hq0 (hp0.keep E466 (fun _ h => h)) (hw0.keep E466 (fun _ h => h)) hT0.p hT0.w hpl0 hwl0 hk1 (by first | exact (entlea_rng hk1 hm).1 | exact (entlea_rng hk1 hm).2)) (fun v469 w470 r472 => ?_)
         obtain ⟨rfl, u471⟩ := r472
         have zu471 := u471.size
         exact dz rfl ⟨(u463.next u471 (fun _ _ h => h.elim)), (B464.keep u471 (fun h => h)), (B465.keep u471 (fun h => h))⟩
        · exact fun D ρ w _ _ _ hW => ⟨[(13, .int .i64 0)], ⟨fo rfl rfl, trivial⟩, fun Lr => t_move rfl rfl rfl (dz rfl hW)⟩
        ·
         intro D ρ w474 hcD hnD hdD hW
         obtain ⟨u475, B476, B477⟩ := hW
         have zu475 := u475.size
         have d21 := hcD.late 21 hnD rfl
         have B479 := B477
         simp only [d21, cond_false] at B479
         refine ⟨[(3, .pointer (some ⟨bk2, 0, none⟩)), (133, .int .i64 0)], ⟨fo rfl rfl, fi 10 rfl rfl rfl, trivial⟩, fun Lr => ?_⟩
         show WL _ _ _ _ _ _ _ ((3, .pointer (some ⟨bk2, 0, none⟩)) :: (133, .int .i64 0) :: Lr) _
         refine t_indexArr (j := 0) (0) Try.underlying94 Try.sizeOf48 rfl rfl rfl rfl rfl (by decide) rfl ?_
         exact dz rfl ⟨u475, B476, B477⟩
        ·
         intro D ρ w480 hcD hnD hdD hW
         obtain ⟨u481, B482, B483⟩ := hW
         have zu481 := u481.size
         have d21 := hcD.late 21 hnD rfl
         have B485 := B483
         simp only [d21, cond_false] at B485
         refine ⟨[(134, .pointer (some ⟨bk2, 0, none⟩))], ⟨fi 11 rfl rfl rfl, trivial⟩, fun Lr => ?_⟩
         show WL _ _ _ _ _ _ _ ((134, .pointer (some ⟨bk2, 0, none⟩)) :: Lr) _
         have B486 := (B416.keep u481 (show ¬ (bk2 = bk148 ∨ bk2 = bk153) by first | omega | assumption))
         refine t_loadN (vs := [.int .i64 va.st.lo, .int .i64 va.st.hi, .slice ao1 ((va.runs).length) cap1, .int .i64 va.len, .int .i64 va.wid]) Try.isAgg48 Try.sizeOf48 rfl rfl rfl (B486.at.sub 0 5) rfl ?_
         exact dz rfl ⟨u481, B482, B483⟩
        · exact fun D ρ w _ _ _ hW => ⟨[(13, .int .i64 0)], ⟨fo rfl rfl, trivial⟩, fun Lr => t_move rfl rfl rfl (dz rfl hW)⟩
        ·
         intro D ρ w487 hcD hnD hdD hW
         obtain ⟨u488, B489, B490⟩ := hW
         have zu488 := u488.size
         have d21 := hcD.late 21 hnD rfl
         have B492 := B490
         simp only [d21, cond_false] at B492
         refine ⟨[(5, .pointer (some ⟨bk12, 0, none⟩)), (136, .int .i64 0)], ⟨fo rfl rfl, fi 13 rfl rfl rfl, trivial⟩, fun Lr => ?_⟩
         show WL _ _ _ _ _ _ _ ((5, .pointer (some ⟨bk12, 0, none⟩)) :: (136, .int .i64 0) :: Lr) _
         refine t_indexArr (j := 0) (0) Try.underlying97 Try.sizeOf96 rfl rfl rfl rfl rfl (by decide) rfl ?_
         exact dz rfl ⟨u488, B489, B490⟩
        ·
         intro D ρ w493 hcD hnD hdD hW
         obtain ⟨u494, B495, B496⟩ := hW
         have zu494 := u494.size
         have d21 := hcD.late 21 hnD rfl
         have B498 := B496
         simp only [d21, cond_false] at B498
         refine ⟨[(137, .pointer (some ⟨bk12, 0, none⟩))], ⟨fi 14 rfl rfl rfl, trivial⟩, fun Lr => ?_⟩
         show WL _ _ _ _ _ _ _ ((137, .pointer (some ⟨bk12, 0, none⟩)) :: Lr) _
         have B499 := (B417.keep u494 (show ¬ (bk12 = bk148 ∨ bk12 = bk153) by first | omega | assumption))
         refine t_loadN (vs := [.int .u8 s0, .slice ap0 tp0.length cp0, .slice aw0 tw0.length cw0]) Try.isAgg96 Try.sizeOf96 rfl rfl rfl (B499.at.sub 0 3) rfl ?_
         exact dz rfl ⟨u494, B495, B496⟩
        · exact fun D ρ w _ _ _ hW => ⟨[(20, .int .i64 (leaP va n))], ⟨fo rfl rfl, trivial⟩, fun Lr => t_move rfl rfl rfl (dz rfl hW)⟩
        ·
         intro D ρ w500 hcD hnD hdD hW
         obtain ⟨u501, B502, B503⟩ := hW
         have zu501 := u501.size
         have E504 := E414.next u501 (fun i hi (h : i = bk148 ∨ i = bk153) => show False by first | omega | assumption)
         have d19 := hcD.late 19 hnD rfl
         have B505 := B502
         simp only [d19, cond_false] at B505
         have d21 := hcD.late 21 hnD rfl
         have B506 := B503
         simp only [d21, cond_false] at B506
         refine ⟨[(135, .agg #[.int .i64 va.st.lo, .int .i64 va.st.hi, .slice ao1 ((va.runs).length) cap1, .int .i64 va.len, .int .i64 va.wid]), (138, .agg #[.int .u8 s0, .slice ap0 tp0.length cp0, .slice aw0 tw0.length cw0]), (139, .int .i64 (leaP va n))], ⟨fi 12 rfl rfl rfl, fi 15 rfl rfl rfl, fi 16 rfl rfl rfl, trivial⟩, fun Lr => ?_⟩
         show WL _ _ _ _ _ _ _ ((135, .agg #[.int .i64 va.st.lo, .int .i64 va.st.hi, .slice ao1 ((va.runs).length) cap1, .int .i64 va.len, .int .i64 va.wid]) :: (138, .agg #[.int .u8 s0, .slice ap0 tp0.length cp0, .slice aw0 tw0.length cw0]) :: (139, .int .i64 (leaP va n)) :: Lr) _
         refine t_call (vs := [.agg #[.int .i64 va.st.lo, .int .i64 va.st.hi, .slice ao1 ((va.runs).length) cap1, .int .i64 va.len, .int .i64 va.wid], .agg #[.int .u8 s0, .slice ap0 tp0.length cp0, .slice aw0 tw0.length cw0], .int .i64 (leaP va n)]) own51 rfl rfl rfl rfl (truly_c va ao1 b1 o1 cap1 s0 tp0 tw0 ap0 bp0 op0 cp0 aw0 bw0 ow0 cw0 (leaP va n) _ (hs1.keep E504 (fun _ h => h)) hq0 (hp0.keep E504 (fun _ h => h)) (hw0.keep E504 (fun _ h => h)) hT0.p hT0.w hpl0 hwl0 hk1 (by first | exact (entlea_rng hk1 hm).1 | exact (entlea_rng hk1 hm).2)) (fun v507 w508 r510 => ?_)
         obtain ⟨rfl, u509⟩ := r510
         have zu509 := u509.size
         exact dz rfl ⟨(u501.next u509 (fun _ _ h => h.elim)), (B502.keep u509 (fun h => h)), (B503.keep u509 (fun h => h))⟩
        ·
         intro D ρ w512 hcD hnD hdD hW
         obtain ⟨u513, B514, B515⟩ := hW
         have zu513 := u513.size
         have d19 := hcD.late 19 hnD rfl
         have B517 := B514
         simp only [d19, cond_false] at B517
         have d21 := hcD.late 21 hnD rfl
         have B518 := B515
         simp only [d21, cond_false] at B518
         refine ⟨[(10, .pointer (some ⟨bk148, 0, none⟩)), (123, .int .i64 0)], ⟨fo rfl rfl, fi 0 rfl rfl rfl, trivial⟩, fun Lr => ?_⟩
         show WL _ _ _ _ _ _ _ ((10, .pointer (some ⟨bk148, 0, none⟩)) :: (123, .int .i64 0) :: Lr) _
         refine t_indexArr (j := 0) (0) Try.underlying82 Try.sizeOf3 rfl rfl rfl rfl rfl (by decide) rfl ?_
         exact dz rfl ⟨u513, B514, B515⟩
        ·
         intro D ρ w519 hcD hnD hdD hW
         obtain ⟨u520, B521, B522⟩ := hW
         have zu520 := u520.size
         have B524 := B521
         simp only [hnD, cond_false] at B524
         have d21 := hcD.late 21 hnD rfl
         have B525 := B522
         simp only [d21, cond_false] at B525
         refine ⟨[(132, .int .i64 (tru va s0 tp0 tw0 (entP va n))), (141, .pointer (some ⟨bk148, 0, none⟩))], ⟨fi 9 rfl rfl rfl, fi 18 rfl rfl rfl, trivial⟩, fun Lr => ?_⟩
         show WL _ _ _ _ _ _ _ ((132, .int .i64 (tru va s0 tp0 tw0 (entP va n))) :: (141, .pointer (some ⟨bk148, 0, none⟩)) :: Lr) _
         refine t_store (vs := [.int .i64 (tru va s0 tp0 tw0 (entP va n))]) Try.sizeOf3 rfl rfl rfl B524 rfl rfl (Nat.le_of_ble_eq_true rfl) (by simp [Value.oneCell']) (fun w526 sw526 B528 u527 => ?_)
         have zu527 := u527.size
         have B528 : Blk w526 bk148 82 [.int .i64 (tru va s0 tp0 tw0 (entP va n)), .int .i64 0] := B528
         exact dz0 rfl ⟨(u520.next u527 (fun i hi (h : i = bk148) => show i = bk148 ∨ i = bk153 by first | omega | assumption)), (by show Blk w526 bk148 82 [.int .i64 (tru va s0 tp0 tw0 (entP va n)), .int .i64 0]; exact B528), (B522.keep u527 (show ¬ (bk153 = bk148) by first | omega | assumption))⟩
        ·
         intro D ρ w530 hcD hnD hdD hW
         obtain ⟨u531, B532, B533⟩ := hW
         have zu531 := u531.size
         have d19 := hdD 19 rfl
         have B535 := B532
         simp only [d19, cond_true] at B535
         have d21 := hcD.late 21 hnD rfl
         have B536 := B533
         simp only [d21, cond_false] at B536
         refine ⟨[(11, .pointer (some ⟨bk153, 0, none⟩)), (124, .int .i64 0)], ⟨fo rfl rfl, fi 1 rfl rfl rfl, trivial⟩, fun Lr => ?_⟩
         show WL _ _ _ _ _ _ _ ((11, .pointer (some ⟨bk153, 0, none⟩)) :: (124, .int .i64 0) :: Lr) _
         refine t_indexArr (j := 0) (0) Try.underlying82 Try.sizeOf3 rfl rfl rfl rfl rfl (by decide) rfl ?_
         exact dz rfl ⟨u531, B532, B533⟩
        ·
         intro D ρ w537 hcD hnD hdD hW
         obtain ⟨u538, B539, B540⟩ := hW
         have zu538 := u538.size
         have d19 := hdD 19 rfl
         have B542 := B539
         simp only [d19, cond_true] at B542
         have B543 := B540
         simp only [hnD, cond_false] at B543
         refine ⟨[(140, .int .i64 (tru va s0 tp0 tw0 (leaP va n))), (142, .pointer (some ⟨bk153, 0, none⟩))], ⟨fi 17 rfl rfl rfl, fi 20 rfl rfl rfl, trivial⟩, fun Lr => ?_⟩
         show WL _ _ _ _ _ _ _ ((140, .int .i64 (tru va s0 tp0 tw0 (leaP va n))) :: (142, .pointer (some ⟨bk153, 0, none⟩)) :: Lr) _
         refine t_store (vs := [.int .i64 (tru va s0 tp0 tw0 (leaP va n))]) Try.sizeOf3 rfl rfl rfl B543 rfl rfl (Nat.le_of_ble_eq_true rfl) (by simp [Value.oneCell']) (fun w544 sw544 B546 u545 => ?_)
         have zu545 := u545.size
         have B546 : Blk w544 bk153 82 [.int .i64 (tru va s0 tp0 tw0 (leaP va n)), .int .i64 0] := B546
         exact dz0 rfl ⟨(u538.next u545 (fun i hi (h : i = bk153) => show i = bk148 ∨ i = bk153 by first | omega | assumption)), (B539.keep u545 (show ¬ (bk148 = bk153) by first | omega | assumption)), (by show Blk w544 bk153 82 [.int .i64 (tru va s0 tp0 tw0 (leaP va n)), .int .i64 0]; exact B546)⟩
        intro ρ w548 hW
        obtain ⟨u549, B550, B551⟩ := hW
        have zu549 := u549.size
        have E552 := E414.next u549 (fun i hi (h : i = bk148 ∨ i = bk153) => show False by first | omega | assumption)
        have B550 : Blk w548 bk148 82 [.int .i64 (tru va s0 tp0 tw0 (entP va n)), .int .i64 0] := B550
        have B551 : Blk w548 bk153 82 [.int .i64 (tru va s0 tp0 tw0 (leaP va n)), .int .i64 0] := B551
        refine QK.weak [(3, .pointer (some ⟨bk2, 0, none⟩)), (4, .pointer (some ⟨bk7, 0, none⟩)), (5, .pointer (some ⟨bk12, 0, none⟩)), (6, .bool false), (7, .bool (MeetOk va vb n && mayB (thrS va n) (thrS vb n))), (8, .bool (MeetOk va vb n && mustB (thrS va n) (thrS vb n))), (10, .pointer (some ⟨bk148, 0, none⟩)), (11, .pointer (some ⟨bk153, 0, none⟩)), (12, .bool ((thrS va n).there)), (13, .int .i64 0), (14, .pointer (some ⟨bk192, 0, none⟩)), (15, .pointer (some ⟨bk197, 0, none⟩)), (16, .bool ((thrS va n).there)), (17, .int .i64 0), (18, .int .i64 (tail va)), (19, .int .i64 (entP va n)), (20, .int .i64 (leaP va n)), (59, .int .i64 0), (60, .bool true), (63, .tuple #[.agg #[.int .i64 ((ThrS va n).inn.lo), .int .i64 ((ThrS va n).inn.hi)], .agg #[.int .i64 ((ThrS va n).out.lo), .int .i64 ((ThrS va n).out.hi)], .bool ((ThrS va n).there), .int .i64 (ThrE va n)]), (64, .int .i64 0), (65, .pointer (some ⟨bk2, 0, none⟩)), (66, .agg #[.int .i64 va.st.lo, .int .i64 va.st.hi, .slice ao1 ((va.runs).length) cap1, .int .i64 va.len, .int .i64 va.wid]), (68, .agg #[.int .i64 n.frm, .int .i64 n.to, .int .i64 n.wid, .bool n.single]), (69, .tuple #[.agg #[.int .i64 ((ThrS va n).inn.lo), .int .i64 ((ThrS va n).inn.hi)], .agg #[.int .i64 ((ThrS va n).out.lo), .int .i64 ((ThrS va n).out.hi)], .bool ((ThrS va n).there), .int .i64 (ThrE va n)]), (70, .agg #[.int .i64 ((ThrS va n).inn.lo), .int .i64 ((ThrS va n).inn.hi)]), (71, .agg #[.int .i64 ((ThrS va n).out.lo), .int .i64 ((ThrS va n).out.hi)]), (72, .bool ((ThrS va n).there)), (73, .int .i64 (ThrE va n)), (74, .int .i64 0), (75, .bool false), (80, .bool ((thrS va n).there)), (81, .bool (!((thrS va n).there))), (90, .int .i64 0), (91, .pointer (some ⟨bk2, 0, none⟩)), (92, .pointer (some ⟨bk2, 3, none⟩)), (93, .int .i64 va.len), (94, .int .i64 (va.len + 99)), (95, .int .i64 (tail va)), (96, .pointer (some ⟨bk7, 0, none⟩)), (97, .int .i64 n.frm), (98, .pointer (some ⟨bk7, 1, none⟩)), (99, .int .i64 n.to), (100, .int .i64 (tail va)), (101, .int .i64 (n.to + (tail va))), (123, .int .i64 0), (124, .int .i64 0), (125, .int .i64 0), (126, .pointer (some ⟨bk2, 0, none⟩)), (127, .agg #[.int .i64 va.st.lo, .int .i64 va.st.hi, .slice ao1 ((va.runs).length) cap1, .int .i64 va.len, .int .i64 va.wid]), (128, .int .i64 0), (129, .pointer (some ⟨bk12, 0, none⟩)), (130, .agg #[.int .u8 s0, .slice ap0 tp0.length cp0, .slice aw0 tw0.length cw0]), (131, .int .i64 (entP va n)), (132, .int .i64 (tru va s0 tp0 tw0 (entP va n))), (133, .int .i64 0), (134, .pointer (some ⟨bk2, 0, none⟩)), (135, .agg #[.int .i64 va.st.lo, .int .i64 va.st.hi, .slice ao1 ((va.runs).length) cap1, .int .i64 va.len, .int .i64 va.wid]), (136, .int .i64 0), (137, .pointer (some ⟨bk12, 0, none⟩)), (138, .agg #[.int .u8 s0, .slice ap0 tp0.length cp0, .slice aw0 tw0.length cw0]), (139, .int .i64 (leaP va n)), (140, .int .i64 (tru va s0 tp0 tw0 (leaP va n))), (141, .pointer (some ⟨bk148, 0, none⟩)), (142, .pointer (some ⟨bk153, 0, none⟩))] ⟨rfl, rfl, rfl, rfl, rfl, rfl, rfl, rfl, rfl, rfl, rfl, rfl, rfl, rfl, rfl, rfl, rfl, rfl, rfl, rfl, rfl, rfl, rfl, rfl, rfl, rfl, rfl, rfl, rfl, rfl, rfl, rfl, rfl, rfl, rfl, rfl, rfl, rfl, rfl, rfl, rfl, rfl, rfl, rfl, rfl, rfl, rfl, rfl, rfl, rfl, rfl, rfl, rfl, rfl, rfl, rfl, rfl, rfl, rfl, rfl, rfl, rfl, rfl, rfl, rfl, trivial⟩ (hK415 _ _ (c_seq fun K553 hK553 => (c_seq fun K554 hK554 => ?_)))
        have hin0 := truV_in (ts := s0) hT0 hq0 hk1 he0
        have hou0 := truV_in (ts := s0) hT0 hq0 hk1 hl0
        have hmo0 := truV_mono (ts := s0) hT0 hk1 hm he0 hl0
        have g9148 : ¬ (tru va s0 tp0 tw0 (entP va n)) < (arr va (entP va n)).lo := by omega
        have g9155 : ¬ (arr va (entP va n)).hi < (tru va s0 tp0 tw0 (entP va n)) := by omega
        have g9163 : ¬ (tru va s0 tp0 tw0 (leaP va n)) < (arr va (leaP va n)).lo := by omega
        have g9171 : ¬ (arr va (leaP va n)).hi < (tru va s0 tp0 tw0 (leaP va n)) := by omega
        have g9180 : ¬ (tru va s0 tp0 tw0 (leaP va n)) < (tru va s0 tp0 tw0 (entP va n)) := by omega
        have B555 := (((B339.keep u358 (fun h => h)).keep u363 (fun h => h)).keep u549 (show ¬ (bk192 = bk148 ∨ bk192 = bk153) by first | omega | assumption))
        have B556 := (((B341.keep u358 (fun h => h)).keep u363 (fun h => h)).keep u549 (show ¬ (bk197 = bk148 ∨ bk197 = bk153) by first | omega | assumption))
        refine WC.weak [(3, .pointer (some ⟨bk2, 0, none⟩)), (4, .pointer (some ⟨bk7, 0, none⟩)), (5, .pointer (some ⟨bk12, 0, none⟩)), (6, .bool false), (7, .bool (MeetOk va vb n && mayB (thrS va n) (thrS vb n))), (8, .bool (MeetOk va vb n && mustB (thrS va n) (thrS vb n))), (10, .pointer (some ⟨bk148, 0, none⟩)), (11, .pointer (some ⟨bk153, 0, none⟩)), (12, .bool ((thrS va n).there)), (13, .int .i64 0), (14, .pointer (some ⟨bk192, 0, none⟩)), (15, .pointer (some ⟨bk197, 0, none⟩)), (16, .bool ((thrS va n).there)), (17, .int .i64 0), (18, .int .i64 (tail va)), (19, .int .i64 (entP va n)), (20, .int .i64 (leaP va n)), (59, .int .i64 0), (60, .bool true), (63, .tuple #[.agg #[.int .i64 ((ThrS va n).inn.lo), .int .i64 ((ThrS va n).inn.hi)], .agg #[.int .i64 ((ThrS va n).out.lo), .int .i64 ((ThrS va n).out.hi)], .bool ((ThrS va n).there), .int .i64 (ThrE va n)]), (64, .int .i64 0), (65, .pointer (some ⟨bk2, 0, none⟩)), (66, .agg #[.int .i64 va.st.lo, .int .i64 va.st.hi, .slice ao1 ((va.runs).length) cap1, .int .i64 va.len, .int .i64 va.wid]), (68, .agg #[.int .i64 n.frm, .int .i64 n.to, .int .i64 n.wid, .bool n.single]), (69, .tuple #[.agg #[.int .i64 ((ThrS va n).inn.lo), .int .i64 ((ThrS va n).inn.hi)], .agg #[.int .i64 ((ThrS va n).out.lo), .int .i64 ((ThrS va n).out.hi)], .bool ((ThrS va n).there), .int .i64 (ThrE va n)]), (70, .agg #[.int .i64 ((ThrS va n).inn.lo), .int .i64 ((ThrS va n).inn.hi)]), (71, .agg #[.int .i64 ((ThrS va n).out.lo), .int .i64 ((ThrS va n).out.hi)]), (72, .bool ((ThrS va n).there)), (73, .int .i64 (ThrE va n)), (74, .int .i64 0), (75, .bool false), (80, .bool ((thrS va n).there)), (81, .bool (!((thrS va n).there))), (90, .int .i64 0), (91, .pointer (some ⟨bk2, 0, none⟩)), (92, .pointer (some ⟨bk2, 3, none⟩)), (93, .int .i64 va.len), (94, .int .i64 (va.len + 99)), (95, .int .i64 (tail va)), (96, .pointer (some ⟨bk7, 0, none⟩)), (97, .int .i64 n.frm), (98, .pointer (some ⟨bk7, 1, none⟩)), (99, .int .i64 n.to), (100, .int .i64 (tail va)), (101, .int .i64 (n.to + (tail va))), (123, .int .i64 0), (124, .int .i64 0), (125, .int .i64 0), (126, .pointer (some ⟨bk2, 0, none⟩)), (127, .agg #[.int .i64 va.st.lo, .int .i64 va.st.hi, .slice ao1 ((va.runs).length) cap1, .int .i64 va.len, .int .i64 va.wid]), (128, .int .i64 0), (129, .pointer (some ⟨bk12, 0, none⟩)), (130, .agg #[.int .u8 s0, .slice ap0 tp0.length cp0, .slice aw0 tw0.length cw0]), (131, .int .i64 (entP va n)), (132, .int .i64 (tru va s0 tp0 tw0 (entP va n))), (133, .int .i64 0), (134, .pointer (some ⟨bk2, 0, none⟩)), (135, .agg #[.int .i64 va.st.lo, .int .i64 va.st.hi, .slice ao1 ((va.runs).length) cap1, .int .i64 va.len, .int .i64 va.wid]), (136, .int .i64 0), (137, .pointer (some ⟨bk12, 0, none⟩)), (138, .agg #[.int .u8 s0, .slice ap0 tp0.length cp0, .slice aw0 tw0.length cw0]), (139, .int .i64 (leaP va n)), (140, .int .i64 (tru va s0 tp0 tw0 (leaP va n))), (141, .pointer (some ⟨bk148, 0, none⟩)), (142, .pointer (some ⟨bk153, 0, none⟩))] ⟨rfl, rfl, rfl, rfl, rfl, rfl, rfl, rfl, rfl, rfl, rfl, rfl, rfl, rfl, rfl, rfl, rfl, rfl, rfl, rfl, rfl, rfl, rfl, rfl, rfl, rfl, rfl, rfl, rfl, rfl, rfl, rfl, rfl, rfl, rfl, rfl, rfl, rfl, rfl, rfl, rfl, rfl, rfl, rfl, rfl, rfl, rfl, rfl, rfl, rfl, rfl, rfl, rfl, rfl, rfl, rfl, rfl, rfl, rfl, rfl, rfl, rfl, rfl, rfl, rfl, trivial⟩ (c_drawn follows 39 [some (143, some (.int .i64 0)), some (144, some (.pointer (some ⟨bk148, 0, none⟩))), some (145, some (.int .i64 (tru va s0 tp0 tw0 (entP va n)))), some (146, some (.pointer (some ⟨bk192, 0, none⟩))), some (147, some (.int .i64 ((arr va (entP va n)).lo))), some (148, some (.bool false)), some (149, some (.bool false)), some (150, some (.int .i64 0)), some (151, some (.pointer (some ⟨bk148, 0, none⟩))), some (152, some (.int .i64 (tru va s0 tp0 tw0 (entP va n)))), some (153, some (.pointer (some ⟨bk192, 1, none⟩))), some (154, some (.int .i64 ((arr va (entP va n)).hi))), some (155, some (.bool false)), some (156, some (.bool false)), some (157, some (.bool false)), some (158, some (.int .i64 0)), some (159, some (.pointer (some ⟨bk153, 0, none⟩))), some (160, some (.int .i64 (tru va s0 tp0 tw0 (leaP va n)))), some (161, some (.pointer (some ⟨bk197, 0, none⟩))), some (162, some (.int .i64 ((arr va (leaP va n)).lo))), some (163, some (.bool false)), some (164, some (.bool false)), some (165, some (.bool false)), some (166, some (.int .i64 0)), some (167, some (.pointer (some ⟨bk153, 0, none⟩))), some (168, some (.int .i64 (tru va s0 tp0 tw0 (leaP va n)))), some (169, some (.pointer (some ⟨bk197, 1, none⟩))), some (170, some (.int .i64 ((arr va (leaP va n)).hi))), some (171, some (.bool false)), some (172, some (.bool false)), some (173, some (.bool false)), some (174, some (.int .i64 0)), some (175, some (.pointer (some ⟨bk148, 0, none⟩))), some (176, some (.int .i64 (tru va s0 tp0 tw0 (entP va n)))), some (177, some (.int .i64 0)), some (178, some (.pointer (some ⟨bk153, 0, none⟩))), some (179, some (.int .i64 (tru va s0 tp0 tw0 (leaP va n)))), some (180, some (.bool false)), some (181, some (.bool false))] [[],[0],[1],[],[3],[2,4],[5],[6],[7,6],[8,6],[6],[10,6],[9,11,6],[6,12],[13,6],[14],[15,14],[16,14],[14],[18,14],[17,19,14],[14,20],[21,14],[22],[23,22],[24,22],[22],[26,22],[25,27,22],[22,28],[29,22],[30],[31,30],[32,30],[30],[34,30],[35,30],[33,36,30],[30,37]] (fun _ _ w => Upd (fun _ => False) w548 w) rfl rfl rfl (by kernel_rfl) (by kernel_rfl) (Upd.drew _).to ⟨?_, ?_, ?_, ?_, ?_, ?_, ?_, ?_, ?_, ?_, ?_, ?_, ?_, ?_, ?_, ?_, ?_, ?_, ?_, ?_, ?_, ?_, ?_, ?_, ?_, ?_, ?_, ?_, ?_, ?_, ?_, ?_, ?_, ?_, ?_, ?_, ?_, ?_, ?_, trivial⟩ ?_)
        · exact fun D ρ w _ _ _ hW => ⟨[(13, .int .i64 0)], ⟨fo rfl rfl, trivial⟩, fun Lr => t_move rfl rfl rfl (dz rfl hW)⟩
        ·
         intro D ρ w557 hcD hnD hdD hW
         have zhW := hW.size
         refine ⟨[(10, .pointer (some ⟨bk148, 0, none⟩)), (143, .int .i64 0)], ⟨fo rfl rfl, fi 0 rfl rfl rfl, trivial⟩, fun Lr => ?_⟩
         show WL _ _ _ _ _ _ _ ((10, .pointer (some ⟨bk148, 0, none⟩)) :: (143, .int .i64 0) :: Lr) _
         refine t_indexArr (j := 0) (0) Try.underlying82 Try.sizeOf3 rfl rfl rfl rfl rfl (by decide) rfl ?_
         exact dz rfl hW
        ·
         intro D ρ w560 hcD hnD hdD hW
         have zhW := hW.size
         refine ⟨[(144, .pointer (some ⟨bk148, 0, none⟩))], ⟨fi 1 rfl rfl rfl, trivial⟩, fun Lr => ?_⟩
         show WL _ _ _ _ _ _ _ ((144, .pointer (some ⟨bk148, 0, none⟩)) :: Lr) _
         have B563 := (B550.keep hW (fun h => h))
         refine t_load Try.isAgg3 rfl rfl rfl (B563.get rfl) ?_
         exact dz rfl hW
        · exact fun D ρ w _ _ _ hW => ⟨[(14, .pointer (some ⟨bk192, 0, none⟩))], ⟨fo rfl rfl, trivial⟩, fun Lr => t_field Try.underlying45 rfl Try.sizeOf3 (0) rfl rfl rfl rfl (dz rfl hW)⟩
        ·
         intro D ρ w564 hcD hnD hdD hW
         have zhW := hW.size
         refine ⟨[(146, .pointer (some ⟨bk192, 0, none⟩))], ⟨fi 3 rfl rfl rfl, trivial⟩, fun Lr => ?_⟩
         show WL _ _ _ _ _ _ _ ((146, .pointer (some ⟨bk192, 0, none⟩)) :: Lr) _
         have B567 := (B555.keep hW (fun h => h))
         refine t_load Try.isAgg3 rfl rfl rfl (B567.get rfl) ?_
         exact dz rfl hW
        · exact fun D ρ w _ _ _ hW => ⟨[(145, .int .i64 (tru va s0 tp0 tw0 (entP va n))), (147, .int .i64 ((arr va (entP va n)).lo))], ⟨fi 2 rfl rfl rfl, fi 4 rfl rfl rfl, trivial⟩, fun Lr => t_cmp rfl rfl rfl rfl rfl (t_samehd (v := .bool false) (by first | exact congrArg Value.bool (decide_eq_false g9148) | exact congrArg Value.bool g9148 | simp [g9148]) (dz rfl hW))⟩
        · exact fun D ρ w _ _ _ hW => ⟨[(148, .bool false)], ⟨fi 5 rfl rfl rfl, trivial⟩, fun Lr => t_move rfl rfl rfl (dz rfl hW)⟩
        · exact fun D ρ w _ _ _ hW => ⟨[(13, .int .i64 0), (149, .bool false)], ⟨fo rfl rfl, fi 6 rfl rfl rfl, trivial⟩, fun Lr => t_move rfl rfl rfl (dz rfl hW)⟩
        ·
         intro D ρ w568 hcD hnD hdD hW
         have zhW := hW.size
         refine ⟨[(10, .pointer (some ⟨bk148, 0, none⟩)), (149, .bool false), (150, .int .i64 0)], ⟨fo rfl rfl, fi 6 rfl rfl rfl, fi 7 rfl rfl rfl, trivial⟩, fun Lr => ?_⟩
         show WL _ _ _ _ _ _ _ ((10, .pointer (some ⟨bk148, 0, none⟩)) :: (149, .bool false) :: (150, .int .i64 0) :: Lr) _
         refine t_indexArr (j := 0) (0) Try.underlying82 Try.sizeOf3 rfl rfl rfl rfl rfl (by decide) rfl ?_
         exact dz rfl hW
        ·
         intro D ρ w571 hcD hnD hdD hW
         have zhW := hW.size
         refine ⟨[(149, .bool false), (151, .pointer (some ⟨bk148, 0, none⟩))], ⟨fi 6 rfl rfl rfl, fi 8 rfl rfl rfl, trivial⟩, fun Lr => ?_⟩
         show WL _ _ _ _ _ _ _ ((149, .bool false) :: (151, .pointer (some ⟨bk148, 0, none⟩)) :: Lr) _
         have B574 := (B550.keep hW (fun h => h))
         refine t_load Try.isAgg3 rfl rfl rfl (B574.get rfl) ?_
         exact dz rfl hW
        · exact fun D ρ w _ _ _ hW => ⟨[(14, .pointer (some ⟨bk192, 0, none⟩)), (149, .bool false)], ⟨fo rfl rfl, fi 6 rfl rfl rfl, trivial⟩, fun Lr => t_field Try.underlying45 rfl Try.sizeOf3 (1) rfl rfl rfl rfl (dz rfl hW)⟩
        ·
         intro D ρ w575 hcD hnD hdD hW
         have zhW := hW.size
         refine ⟨[(149, .bool false), (153, .pointer (some ⟨bk192, 1, none⟩))], ⟨fi 6 rfl rfl rfl, fi 10 rfl rfl rfl, trivial⟩, fun Lr => ?_⟩
         show WL _ _ _ _ _ _ _ ((149, .bool false) :: (153, .pointer (some ⟨bk192, 1, none⟩)) :: Lr) _
         have B578 := (B555.keep hW (fun h => h))
         refine t_load Try.isAgg3 rfl rfl rfl (B578.get rfl) ?_
         exact dz rfl hW
        · exact fun D ρ w _ _ _ hW => ⟨[(149, .bool false), (152, .int .i64 (tru va s0 tp0 tw0 (entP va n))), (154, .int .i64 ((arr va (entP va n)).hi))], ⟨fi 6 rfl rfl rfl, fi 9 rfl rfl rfl, fi 11 rfl rfl rfl, trivial⟩, fun Lr => t_cmp rfl rfl rfl rfl rfl (t_samehd (v := .bool false) (by first | exact congrArg Value.bool (decide_eq_false g9155) | exact congrArg Value.bool g9155 | simp [g9155]) (dz rfl hW))⟩
        · exact fun D ρ w _ _ _ hW => ⟨[(149, .bool false), (155, .bool false)], ⟨fi 6 rfl rfl rfl, fi 12 rfl rfl rfl, trivial⟩, fun Lr => t_pick_f rfl rfl rfl rfl (dz rfl hW)⟩
        · exact fun D ρ w _ _ _ hW => ⟨[(156, .bool false)], ⟨fi 13 rfl rfl rfl, trivial⟩, fun Lr => t_move rfl rfl rfl (dz rfl hW)⟩
        · exact fun D ρ w _ _ _ hW => ⟨[(13, .int .i64 0), (157, .bool false)], ⟨fo rfl rfl, fi 14 rfl rfl rfl, trivial⟩, fun Lr => t_move rfl rfl rfl (dz rfl hW)⟩
        ·
         intro D ρ w579 hcD hnD hdD hW
         have zhW := hW.size
         refine ⟨[(11, .pointer (some ⟨bk153, 0, none⟩)), (157, .bool false), (158, .int .i64 0)], ⟨fo rfl rfl, fi 14 rfl rfl rfl, fi 15 rfl rfl rfl, trivial⟩, fun Lr => ?_⟩
         show WL _ _ _ _ _ _ _ ((11, .pointer (some ⟨bk153, 0, none⟩)) :: (157, .bool false) :: (158, .int .i64 0) :: Lr) _
         refine t_indexArr (j := 0) (0) Try.underlying82 Try.sizeOf3 rfl rfl rfl rfl rfl (by decide) rfl ?_
         exact dz rfl hW
        ·
         intro D ρ w582 hcD hnD hdD hW
         have zhW := hW.size
         refine ⟨[(157, .bool false), (159, .pointer (some ⟨bk153, 0, none⟩))], ⟨fi 14 rfl rfl rfl, fi 16 rfl rfl rfl, trivial⟩, fun Lr => ?_⟩
         show WL _ _ _ _ _ _ _ ((157, .bool false) :: (159, .pointer (some ⟨bk153, 0, none⟩)) :: Lr) _
         have B585 := (B551.keep hW (fun h => h))
         refine t_load Try.isAgg3 rfl rfl rfl (B585.get rfl) ?_
         exact dz rfl hW
        · exact fun D ρ w _ _ _ hW => ⟨[(15, .pointer (some ⟨bk197, 0, none⟩)), (157, .bool false)], ⟨fo rfl rfl, fi 14 rfl rfl rfl, trivial⟩, fun Lr => t_field Try.underlying45 rfl Try.sizeOf3 (0) rfl rfl rfl rfl (dz rfl hW)⟩
        ·
         intro D ρ w586 hcD hnD hdD hW
         have zhW := hW.size
         refine ⟨[(157, .bool false), (161, .pointer (some ⟨bk197, 0, none⟩))], ⟨fi 14 rfl rfl rfl, fi 18 rfl rfl rfl, trivial⟩, fun Lr => ?_⟩
         show WL _ _ _ _ _ _ _ ((157, .bool false) :: (161, .pointer (some ⟨bk197, 0, none⟩)) :: Lr) _
         have B589 := (B556.keep hW (fun h => h))
         refine t_load Try.isAgg3 rfl rfl rfl (B589.get rfl) ?_
         exact dz rfl hW
        · exact fun D ρ w _ _ _ hW => ⟨[(157, .bool false), (160, .int .i64 (tru va s0 tp0 tw0 (leaP va n))), (162, .int .i64 ((arr va (leaP va n)).lo))], ⟨fi 14 rfl rfl rfl, fi 17 rfl rfl rfl, fi 19 rfl rfl rfl, trivial⟩, fun Lr => t_cmp rfl rfl rfl rfl rfl (t_samehd (v := .bool false) (by first | exact congrArg Value.bool (decide_eq_false g9163) | exact congrArg Value.bool g9163 | simp [g9163]) (dz rfl hW))⟩
        · exact fun D ρ w _ _ _ hW => ⟨[(157, .bool false), (163, .bool false)], ⟨fi 14 rfl rfl rfl, fi 20 rfl rfl rfl, trivial⟩, fun Lr => t_pick_f rfl rfl rfl rfl (dz rfl hW)⟩
        · exact fun D ρ w _ _ _ hW => ⟨[(164, .bool false)], ⟨fi 21 rfl rfl rfl, trivial⟩, fun Lr => t_move rfl rfl rfl (dz rfl hW)⟩
        · exact fun D ρ w _ _ _ hW => ⟨[(13, .int .i64 0), (165, .bool false)], ⟨fo rfl rfl, fi 22 rfl rfl rfl, trivial⟩, fun Lr => t_move rfl rfl rfl (dz rfl hW)⟩
        ·
         intro D ρ w590 hcD hnD hdD hW
         have zhW := hW.size
         refine ⟨[(11, .pointer (some ⟨bk153, 0, none⟩)), (165, .bool false), (166, .int .i64 0)], ⟨fo rfl rfl, fi 22 rfl rfl rfl, fi 23 rfl rfl rfl, trivial⟩, fun Lr => ?_⟩
         show WL _ _ _ _ _ _ _ ((11, .pointer (some ⟨bk153, 0, none⟩)) :: (165, .bool false) :: (166, .int .i64 0) :: Lr) _
         refine t_indexArr (j := 0) (0) Try.underlying82 Try.sizeOf3 rfl rfl rfl rfl rfl (by decide) rfl ?_
         exact dz rfl hW
        ·
         intro D ρ w593 hcD hnD hdD hW
         have zhW := hW.size
         refine ⟨[(165, .bool false), (167, .pointer (some ⟨bk153, 0, none⟩))], ⟨fi 22 rfl rfl rfl, fi 24 rfl rfl rfl, trivial⟩, fun Lr => ?_⟩
         show WL _ _ _ _ _ _ _ ((165, .bool false) :: (167, .pointer (some ⟨bk153, 0, none⟩)) :: Lr) _
         have B596 := (B551.keep hW (fun h => h))
         refine t_load Try.isAgg3 rfl rfl rfl (B596.get rfl) ?_
         exact dz rfl hW
        · exact fun D ρ w _ _ _ hW => ⟨[(15, .pointer (some ⟨bk197, 0, none⟩)), (165, .bool false)], ⟨fo rfl rfl, fi 22 rfl rfl rfl, trivial⟩, fun Lr => t_field Try.underlying45 rfl Try.sizeOf3 (1) rfl rfl rfl rfl (dz rfl hW)⟩
        ·
         intro D ρ w597 hcD hnD hdD hW
         have zhW := hW.size
         refine ⟨[(165, .bool false), (169, .pointer (some ⟨bk197, 1, none⟩))], ⟨fi 22 rfl rfl rfl, fi 26 rfl rfl rfl, trivial⟩, fun Lr => ?_⟩
         show WL _ _ _ _ _ _ _ ((165, .bool false) :: (169, .pointer (some ⟨bk197, 1, none⟩)) :: Lr) _
         have B600 := (B556.keep hW (fun h => h))
         refine t_load Try.isAgg3 rfl rfl rfl (B600.get rfl) ?_
         exact dz rfl hW
        · exact fun D ρ w _ _ _ hW => ⟨[(165, .bool false), (168, .int .i64 (tru va s0 tp0 tw0 (leaP va n))), (170, .int .i64 ((arr va (leaP va n)).hi))], ⟨fi 22 rfl rfl rfl, fi 25 rfl rfl rfl, fi 27 rfl rfl rfl, trivial⟩, fun Lr => t_cmp rfl rfl rfl rfl rfl (t_samehd (v := .bool false) (by first | exact congrArg Value.bool (decide_eq_false g9171) | exact congrArg Value.bool g9171 | simp [g9171]) (dz rfl hW))⟩
        · exact fun D ρ w _ _ _ hW => ⟨[(165, .bool false), (171, .bool false)], ⟨fi 22 rfl rfl rfl, fi 28 rfl rfl rfl, trivial⟩, fun Lr => t_pick_f rfl rfl rfl rfl (dz rfl hW)⟩
        · exact fun D ρ w _ _ _ hW => ⟨[(172, .bool false)], ⟨fi 29 rfl rfl rfl, trivial⟩, fun Lr => t_move rfl rfl rfl (dz rfl hW)⟩
        · exact fun D ρ w _ _ _ hW => ⟨[(13, .int .i64 0), (173, .bool false)], ⟨fo rfl rfl, fi 30 rfl rfl rfl, trivial⟩, fun Lr => t_move rfl rfl rfl (dz rfl hW)⟩
        ·
         intro D ρ w601 hcD hnD hdD hW
         have zhW := hW.size
         refine ⟨[(10, .pointer (some ⟨bk148, 0, none⟩)), (173, .bool false), (174, .int .i64 0)], ⟨fo rfl rfl, fi 30 rfl rfl rfl, fi 31 rfl rfl rfl, trivial⟩, fun Lr => ?_⟩
         show WL _ _ _ _ _ _ _ ((10, .pointer (some ⟨bk148, 0, none⟩)) :: (173, .bool false) :: (174, .int .i64 0) :: Lr) _
         refine t_indexArr (j := 0) (0) Try.underlying82 Try.sizeOf3 rfl rfl rfl rfl rfl (by decide) rfl ?_
         exact dz rfl hW
        ·
         intro D ρ w604 hcD hnD hdD hW
         have zhW := hW.size
         refine ⟨[(173, .bool false), (175, .pointer (some ⟨bk148, 0, none⟩))], ⟨fi 30 rfl rfl rfl, fi 32 rfl rfl rfl, trivial⟩, fun Lr => ?_⟩
         show WL _ _ _ _ _ _ _ ((173, .bool false) :: (175, .pointer (some ⟨bk148, 0, none⟩)) :: Lr) _
         have B607 := (B550.keep hW (fun h => h))
         refine t_load Try.isAgg3 rfl rfl rfl (B607.get rfl) ?_
         exact dz rfl hW
        · exact fun D ρ w _ _ _ hW => ⟨[(13, .int .i64 0), (173, .bool false)], ⟨fo rfl rfl, fi 30 rfl rfl rfl, trivial⟩, fun Lr => t_move rfl rfl rfl (dz rfl hW)⟩
        ·
         intro D ρ w608 hcD hnD hdD hW
         have zhW := hW.size
         refine ⟨[(11, .pointer (some ⟨bk153, 0, none⟩)), (173, .bool false), (177, .int .i64 0)], ⟨fo rfl rfl, fi 30 rfl rfl rfl, fi 34 rfl rfl rfl, trivial⟩, fun Lr => ?_⟩
         show WL _ _ _ _ _ _ _ ((11, .pointer (some ⟨bk153, 0, none⟩)) :: (173, .bool false) :: (177, .int .i64 0) :: Lr) _
         refine t_indexArr (j := 0) (0) Try.underlying82 Try.sizeOf3 rfl rfl rfl rfl rfl (by decide) rfl ?_
         exact dz rfl hW
        ·
         intro D ρ w611 hcD hnD hdD hW
         have zhW := hW.size
         refine ⟨[(173, .bool false), (178, .pointer (some ⟨bk153, 0, none⟩))], ⟨fi 30 rfl rfl rfl, fi 35 rfl rfl rfl, trivial⟩, fun Lr => ?_⟩
         show WL _ _ _ _ _ _ _ ((173, .bool false) :: (178, .pointer (some ⟨bk153, 0, none⟩)) :: Lr) _
         have B614 := (B551.keep hW (fun h => h))
         refine t_load Try.isAgg3 rfl rfl rfl (B614.get rfl) ?_
         exact dz rfl hW
        · exact fun D ρ w _ _ _ hW => ⟨[(173, .bool false), (176, .int .i64 (tru va s0 tp0 tw0 (entP va n))), (179, .int .i64 (tru va s0 tp0 tw0 (leaP va n)))], ⟨fi 30 rfl rfl rfl, fi 33 rfl rfl rfl, fi 36 rfl rfl rfl, trivial⟩, fun Lr => t_cmp rfl rfl rfl rfl rfl (t_samehd (v := .bool false) (by first | exact congrArg Value.bool (decide_eq_false g9180) | exact congrArg Value.bool g9180 | simp [g9180]) (dz rfl hW))⟩
        · exact fun D ρ w _ _ _ hW => ⟨[(173, .bool false), (180, .bool false)], ⟨fi 30 rfl rfl rfl, fi 37 rfl rfl rfl, trivial⟩, fun Lr => t_pick_f rfl rfl rfl rfl (dz rfl hW)⟩
        intro ρ w615 hW
        have u616 : Upd (fun _ => False) w548 w615 := hW
        have zu616 := u616.size
        have E617 := E552.next u616 (fun _ _ h => h.elim)
        refine QK.weak [(3, .pointer (some ⟨bk2, 0, none⟩)), (4, .pointer (some ⟨bk7, 0, none⟩)), (5, .pointer (some ⟨bk12, 0, none⟩)), (6, .bool false), (7, .bool (MeetOk va vb n && mayB (thrS va n) (thrS vb n))), (8, .bool (MeetOk va vb n && mustB (thrS va n) (thrS vb n))), (10, .pointer (some ⟨bk148, 0, none⟩)), (11, .pointer (some ⟨bk153, 0, none⟩)), (12, .bool ((thrS va n).there)), (13, .int .i64 0), (14, .pointer (some ⟨bk192, 0, none⟩)), (15, .pointer (some ⟨bk197, 0, none⟩)), (16, .bool ((thrS va n).there)), (17, .int .i64 0), (18, .int .i64 (tail va)), (19, .int .i64 (entP va n)), (20, .int .i64 (leaP va n)), (59, .int .i64 0), (60, .bool true), (63, .tuple #[.agg #[.int .i64 ((ThrS va n).inn.lo), .int .i64 ((ThrS va n).inn.hi)], .agg #[.int .i64 ((ThrS va n).out.lo), .int .i64 ((ThrS va n).out.hi)], .bool ((ThrS va n).there), .int .i64 (ThrE va n)]), (64, .int .i64 0), (65, .pointer (some ⟨bk2, 0, none⟩)), (66, .agg #[.int .i64 va.st.lo, .int .i64 va.st.hi, .slice ao1 ((va.runs).length) cap1, .int .i64 va.len, .int .i64 va.wid]), (68, .agg #[.int .i64 n.frm, .int .i64 n.to, .int .i64 n.wid, .bool n.single]), (69, .tuple #[.agg #[.int .i64 ((ThrS va n).inn.lo), .int .i64 ((ThrS va n).inn.hi)], .agg #[.int .i64 ((ThrS va n).out.lo), .int .i64 ((ThrS va n).out.hi)], .bool ((ThrS va n).there), .int .i64 (ThrE va n)]), (70, .agg #[.int .i64 ((ThrS va n).inn.lo), .int .i64 ((ThrS va n).inn.hi)]), (71, .agg #[.int .i64 ((ThrS va n).out.lo), .int .i64 ((ThrS va n).out.hi)]), (72, .bool ((ThrS va n).there)), (73, .int .i64 (ThrE va n)), (74, .int .i64 0), (75, .bool false), (80, .bool ((thrS va n).there)), (81, .bool (!((thrS va n).there))), (90, .int .i64 0), (91, .pointer (some ⟨bk2, 0, none⟩)), (92, .pointer (some ⟨bk2, 3, none⟩)), (93, .int .i64 va.len), (94, .int .i64 (va.len + 99)), (95, .int .i64 (tail va)), (96, .pointer (some ⟨bk7, 0, none⟩)), (97, .int .i64 n.frm), (98, .pointer (some ⟨bk7, 1, none⟩)), (99, .int .i64 n.to), (100, .int .i64 (tail va)), (101, .int .i64 (n.to + (tail va))), (123, .int .i64 0), (124, .int .i64 0), (125, .int .i64 0), (126, .pointer (some ⟨bk2, 0, none⟩)), (127, .agg #[.int .i64 va.st.lo, .int .i64 va.st.hi, .slice ao1 ((va.runs).length) cap1, .int .i64 va.len, .int .i64 va.wid]), (128, .int .i64 0), (129, .pointer (some ⟨bk12, 0, none⟩)), (130, .agg #[.int .u8 s0, .slice ap0 tp0.length cp0, .slice aw0 tw0.length cw0]), (131, .int .i64 (entP va n)), (132, .int .i64 (tru va s0 tp0 tw0 (entP va n))), (133, .int .i64 0), (134, .pointer (some ⟨bk2, 0, none⟩)), (135, .agg #[.int .i64 va.st.lo, .int .i64 va.st.hi, .slice ao1 ((va.runs).length) cap1, .int .i64 va.len, .int .i64 va.wid]), (136, .int .i64 0), (137, .pointer (some ⟨bk12, 0, none⟩)), (138, .agg #[.int .u8 s0, .slice ap0 tp0.length cp0, .slice aw0 tw0.length cw0]), (139, .int .i64 (leaP va n)), (140, .int .i64 (tru va s0 tp0 tw0 (leaP va n))), (141, .pointer (some ⟨bk148, 0, none⟩)), (142, .pointer (some ⟨bk153, 0, none⟩)), (143, .int .i64 0), (144, .pointer (some ⟨bk148, 0, none⟩)), (145, .int .i64 (tru va s0 tp0 tw0 (entP va n))), (146, .pointer (some ⟨bk192, 0, none⟩)), (147, .int .i64 ((arr va (entP va n)).lo)), (148, .bool false), (149, .bool false), (150, .int .i64 0), (151, .pointer (some ⟨bk148, 0, none⟩)), (152, .int .i64 (tru va s0 tp0 tw0 (entP va n))), (153, .pointer (some ⟨bk192, 1, none⟩)), (154, .int .i64 ((arr va (entP va n)).hi)), (155, .bool false), (156, .bool false), (157, .bool false), (158, .int .i64 0), (159, .pointer (some ⟨bk153, 0, none⟩)), (160, .int .i64 (tru va s0 tp0 tw0 (leaP va n))), (161, .pointer (some ⟨bk197, 0, none⟩)), (162, .int .i64 ((arr va (leaP va n)).lo)), (163, .bool false), (164, .bool false), (165, .bool false), (166, .int .i64 0), (167, .pointer (some ⟨bk153, 0, none⟩)), (168, .int .i64 (tru va s0 tp0 tw0 (leaP va n))), (169, .pointer (some ⟨bk197, 1, none⟩)), (170, .int .i64 ((arr va (leaP va n)).hi)), (171, .bool false), (172, .bool false), (173, .bool false), (174, .int .i64 0), (175, .pointer (some ⟨bk148, 0, none⟩)), (176, .int .i64 (tru va s0 tp0 tw0 (entP va n))), (177, .int .i64 0), (178, .pointer (some ⟨bk153, 0, none⟩)), (179, .int .i64 (tru va s0 tp0 tw0 (leaP va n))), (180, .bool false), (181, .bool false)] ⟨rfl, rfl, rfl, rfl, rfl, rfl, rfl, rfl, rfl, rfl, rfl, rfl, rfl, rfl, rfl, rfl, rfl, rfl, rfl, rfl, rfl, rfl, rfl, rfl, rfl, rfl, rfl, rfl, rfl, rfl, rfl, rfl, rfl, rfl, rfl, rfl, rfl, rfl, rfl, rfl, rfl, rfl, rfl, rfl, rfl, rfl, rfl, rfl, rfl, rfl, rfl, rfl, rfl, rfl, rfl, rfl, rfl, rfl, rfl, rfl, rfl, rfl, rfl, rfl, rfl, rfl, rfl, rfl, rfl, rfl, rfl, rfl, rfl, rfl, rfl, rfl, rfl, rfl, rfl, rfl, rfl, rfl, rfl, rfl, rfl, rfl, rfl, rfl, rfl, rfl, rfl, rfl, rfl, rfl, rfl, rfl, rfl, rfl, rfl, rfl, rfl, rfl, rfl, rfl, trivial⟩ (hK554 _ _ (c_cond_f rfl (c_skip (hK553 _ _ (c_seq fun K618 hK618 => (c_region (t_move rfl rfl rfl (t_indexArr (j := 0) (0) Try.underlying94 Try.sizeOf48 rfl rfl rfl rfl rfl (by decide) rfl ?_))))))))
        have B619 := ((B416.keep u549 (show ¬ (bk2 = bk148 ∨ bk2 = bk153) by first | omega | assumption)).keep u616 (fun h => h))
        refine t_loadN (vs := [.int .i64 va.st.lo, .int .i64 va.st.hi, .slice ao1 ((va.runs).length) cap1, .int .i64 va.len, .int .i64 va.wid]) Try.isAgg48 Try.sizeOf48 rfl rfl rfl (B619.at.sub 0 5) rfl (t_call (vs := [.agg #[.int .i64 va.st.lo, .int .i64 va.st.hi, .slice ao1 ((va.runs).length) cap1, .int .i64 va.len, .int .i64 va.wid]]) own28 rfl rfl rfl rfl (copied_c va ao1 b1 o1 cap1 _ (hs1.keep E617 (fun _ h => h)) (by omega)) (fun v621 w622 r624 => ?_))
        obtain ⟨⟨aoC620, bC620, cpC620, rfl, hC620, gebC620⟩, u623⟩ := r624
        have zu623 := u623.size
        refine t_move rfl rfl rfl (t_call (vs := [.agg #[.int .i64 va.st.lo, .int .i64 va.st.hi, .slice aoC620 ((va.runs).length) cpC620, .int .i64 va.len, .int .i64 va.wid], .int .i64 (leaP va n)]) own30 rfl rfl rfl rfl (Arrive_c va aoC620 bC620 0 cpC620 (leaP va n) _ hC620 (by omega)) (fun v626 w627 r629 => ?_))
        obtain ⟨rfl, u628⟩ := r629
        have zu628 := u628.size
        refine t_move rfl rfl rfl (t_extract (vs := [.agg #[.int .i64 ((ArrB va (leaP va n)).lo), .int .i64 ((ArrB va (leaP va n)).hi)], .int .i64 (ArrE va (leaP va n))]) rfl rfl rfl rfl (t_extract (vs := [.agg #[.int .i64 ((ArrB va (leaP va n)).lo), .int .i64 ((ArrB va (leaP va n)).hi)], .int .i64 (ArrE va (leaP va n))]) rfl rfl rfl rfl (t_alloc (cs := [.int .i64 0, .int .i64 0]) Try.zeroValue45 rfl rfl rfl (fun bk631 w632 ebk631 sbk631 B633 u634 => ?_))))
        have zu634 := u634.size
        refine t_store (vs := [.int .i64 ((ArrB va (leaP va n)).lo), .int .i64 ((ArrB va (leaP va n)).hi)]) Try.sizeOf45 rfl rfl rfl B633 rfl rfl (Nat.le_of_ble_eq_true rfl) (by simp [Value.oneCell']) (fun w636 sw636 B638 u637 => ?_)
        have zu637 := u637.size
        have B638 : Blk w636 bk631 45 [.int .i64 ((ArrB va (leaP va n)).lo), .int .i64 ((ArrB va (leaP va n)).hi)] := B638
        refine t_assign rfl rfl rfl (t_nil' (hK618 _ _ (c_seq fun K640 hK640 => (c_region (t_same 17 (v := .int .i64 0) rfl (congrArg (Value.int .i64) (by simp [ArrE, hk1, hl0])) ?_)))))
        have B641 : Blk w636 bk631 45 [.int .i64 ((arr va (leaP va n)).lo), .int .i64 ((arr va (leaP va n)).hi)] := by
         have e : ([.int .i64 ((ArrB va (leaP va n)).lo), .int .i64 ((ArrB va (leaP va n)).hi)] : List Value) = [.int .i64 ((arr va (leaP va n)).lo), .int .i64 ((arr va (leaP va n)).hi)] := by simp [ArrB, hk1, hl0]
         rw [← e]; exact B638
        refine t_move rfl rfl rfl (t_cmp rfl rfl rfl rfl rfl (t_samehd (v := .bool false) rfl (t_move rfl rfl rfl (t_loadN (vs := [.int .i64 ((arr va (leaP va n)).lo), .int .i64 ((arr va (leaP va n)).hi)]) Try.isAgg45 Try.sizeOf45 rfl rfl rfl (B641.at.sub 0 2) rfl ?_))))
        have B642 := (((((B556.keep u616 (fun h => h)).keep u623 (fun h => h)).keep u628 (fun h => h)).keep u634 (fun h => h)).keep u637 (show ¬ (bk197 = bk631) by first | omega | assumption))
        refine t_loadN (vs := [.int .i64 ((arr va (leaP va n)).lo), .int .i64 ((arr va (leaP va n)).hi)]) Try.isAgg45 Try.sizeOf45 rfl rfl rfl (B642.at.sub 0 2) rfl (t_neS (xs := [.int .i64 ((arr va (leaP va n)).lo), .int .i64 ((arr va (leaP va n)).hi)]) (ys := [.int .i64 ((arr va (leaP va n)).lo), .int .i64 ((arr va (leaP va n)).hi)]) (by kernel_rfl) (eqIn45 9998 ((arr va (leaP va n)).lo) ((arr va (leaP va n)).hi) ((arr va (leaP va n)).lo) ((arr va (leaP va n)).hi)) rfl rfl rfl rfl (t_samehd (v := .bool false) (by simp) (t_pick_f rfl rfl rfl rfl (t_nil' (hK640 _ _ (c_cond_f rfl (c_skip ?_)))))))
        have B643 := (((((B550.keep u616 (fun h => h)).keep u623 (fun h => h)).keep u628 (fun h => h)).keep u634 (fun h => h)).keep u637 (show ¬ (bk148 = bk631) by first | omega | assumption))
        have B644 : Blk w636 bk148 82 [.int .i64 (if (thrS va n).there = true then (tru va s0 tp0 tw0 (entP va n)) else 0), .int .i64 0] := by
         have e : ([.int .i64 (tru va s0 tp0 tw0 (entP va n)), .int .i64 0] : List Value) = [.int .i64 (if (thrS va n).there = true then (tru va s0 tp0 tw0 (entP va n)) else 0), .int .i64 0] := by simp [hth0]
         rw [← e]; exact B643
        have B645 := (((((B551.keep u616 (fun h => h)).keep u623 (fun h => h)).keep u628 (fun h => h)).keep u634 (fun h => h)).keep u637 (show ¬ (bk153 = bk631) by first | omega | assumption))
        have B646 : Blk w636 bk153 82 [.int .i64 (if (thrS va n).there = true then (tru va s0 tp0 tw0 (leaP va n)) else 0), .int .i64 0] := by
         have e : ([.int .i64 (tru va s0 tp0 tw0 (leaP va n)), .int .i64 0] : List Value) = [.int .i64 (if (thrS va n).there = true then (tru va s0 tp0 tw0 (leaP va n)) else 0), .int .i64 0] := by simp [hth0]
         rw [← e]; exact B645
        exact hK174 () _ _ ⟨rfl, rfl, rfl, rfl, rfl, rfl, rfl, rfl, rfl, rfl, rfl, trivial⟩ ⟨(((((((((((Upd.refl _ _).next u306 (fun _ _ h => h.elim)).next u325 (fun _ _ h => h.elim)).next u358 (fun _ _ h => h.elim)).next u363 (fun _ _ h => h.elim)).next u549 (fun i hi (h : i = bk148 ∨ i = bk153) => show i = bk148 ∨ i = bk153 by first | omega | assumption)).next u616 (fun _ _ h => h.elim)).next u623 (fun _ _ h => h.elim)).next u628 (fun _ _ h => h.elim)).next u634 (fun _ _ h => h.elim)).next u637 (fun i hi (h : i = bk631) => show i = bk148 ∨ i = bk153 by first | omega | assumption)), B644, B646⟩
    ·
     intro _x w175 hW
     obtain ⟨u176, I647, I648⟩ := hW
     have zu176 := u176.size
     have E649 := E167.next u176 (fun i hi (h : i = bk148 ∨ i = bk153) => show False by first | omega | assumption)
     refine c_region (t_move rfl rfl rfl (t_ari rfl rfl rfl rfl rfl (by omega) (t_samehd (v := .int .i64 1) rfl (t_assign rfl rfl rfl (t_nil' (hK170 _ _ (WR.weak [(3, .pointer (some ⟨bk2, 0, none⟩)), (4, .pointer (some ⟨bk7, 0, none⟩)), (5, .pointer (some ⟨bk12, 0, none⟩)), (7, .bool (MeetOk va vb n && mayB (thrS va n) (thrS vb n))), (8, .bool (MeetOk va vb n && mustB (thrS va n) (thrS vb n))), (10, .pointer (some ⟨bk148, 0, none⟩)), (11, .pointer (some ⟨bk153, 0, none⟩)), (12, .bool ((thrS va n).there)), (13, .int .i64 1), (59, .int .i64 0), (60, .bool true), (61, .int .i64 0), (62, .int .i64 1)] ⟨rfl, rfl, rfl, rfl, rfl, rfl, rfl, rfl, rfl, rfl, rfl, rfl, rfl, trivial⟩ (r_round fun K650 hK650 => (c_seq fun K651 hK651 => (c_seq fun K652 hK652 => (c_region (t_move rfl rfl rfl (t_cmp rfl rfl rfl rfl rfl (t_samehd (v := .bool true) rfl (t_nil' (hK652 _ _ (c_cond_t rfl (c_skip (hK651 _ _ (c_cut (γ := Unit) (fun _x => [(3, .pointer (some ⟨bk2, 0, none⟩)), (4, .pointer (some ⟨bk7, 0, none⟩)), (5, .pointer (some ⟨bk12, 0, none⟩)), (7, .bool (MeetOk va vb n && mayB (thrS va n) (thrS vb n))), (8, .bool (MeetOk va vb n && mustB (thrS va n) (thrS vb n))), (10, .pointer (some ⟨bk148, 0, none⟩)), (11, .pointer (some ⟨bk153, 0, none⟩)), (12, .bool ((thrS va n).there && (thrS vb n).there)), (13, .int .i64 1), (59, .int .i64 1), (60, .bool true), (61, .int .i64 0), (62, .int .i64 1)]) (fun _x w => Upd (fun i => i = bk148 ∨ i = bk153) w175 w ∧ Blk w bk148 82 [.int .i64 (if (thrS va n).there = true then (tru va s0 tp0 tw0 (entP va n)) else 0), .int .i64 (if (thrS vb n).there = true then (tru vb s1 tp1 tw1 (entP vb n)) else 0)] ∧ Blk w bk153 82 [.int .i64 (if (thrS va n).there = true then (tru va s0 tp0 tw0 (leaP va n)) else 0), .int .i64 (if (thrS vb n).there = true then (tru vb s1 tp1 tw1 (leaP vb n)) else 0)]) (fun K654 hK654 => ?_) ?_))))))))))))))))))))
     ·
      refine c_block (c_seq fun K657 hK657 => ?_)
      have B658 := ((((((B44.keep u133 (fun h => h)).keep u151 (fun h => h)).keep u156 (fun h => h)).keep u160 (show ¬ (bk2 = bk148) by first | omega | assumption)).keep u165 (show ¬ (bk2 = bk153) by first | omega | assumption)).keep u176 (show ¬ (bk2 = bk148 ∨ bk2 = bk153) by first | omega | assumption))
      have B659 := ((((((B45.keep u133 (fun h => h)).keep u151 (fun h => h)).keep u156 (fun h => h)).keep u160 (show ¬ (bk7 = bk148) by first | omega | assumption)).keep u165 (show ¬ (bk7 = bk153) by first | omega | assumption)).keep u176 (show ¬ (bk7 = bk148 ∨ bk7 = bk153) by first | omega | assumption))
      refine WC.weak [(3, .pointer (some ⟨bk2, 0, none⟩)), (4, .pointer (some ⟨bk7, 0, none⟩)), (5, .pointer (some ⟨bk12, 0, none⟩)), (7, .bool (MeetOk va vb n && mayB (thrS va n) (thrS vb n))), (8, .bool (MeetOk va vb n && mustB (thrS va n) (thrS vb n))), (10, .pointer (some ⟨bk148, 0, none⟩)), (11, .pointer (some ⟨bk153, 0, none⟩)), (12, .bool ((thrS va n).there)), (13, .int .i64 1), (59, .int .i64 1), (60, .bool true), (61, .int .i64 0), (62, .int .i64 1)] ⟨rfl, rfl, rfl, rfl, rfl, rfl, rfl, rfl, rfl, rfl, rfl, rfl, rfl, trivial⟩ (c_drawn follows 17 [some (64, some (.int .i64 1)), some (65, some (.pointer (some ⟨bk2, 5, none⟩))), some (66, some (.agg #[.int .i64 vb.st.lo, .int .i64 vb.st.hi, .slice ao2 ((vb.runs).length) cap2, .int .i64 vb.len, .int .i64 vb.wid])), some (67, none), some (68, some (.agg #[.int .i64 n.frm, .int .i64 n.to, .int .i64 n.wid, .bool n.single])), some (69, some (.tuple #[.agg #[.int .i64 ((ThrS vb n).inn.lo), .int .i64 ((ThrS vb n).inn.hi)], .agg #[.int .i64 ((ThrS vb n).out.lo), .int .i64 ((ThrS vb n).out.hi)], .bool ((ThrS vb n).there), .int .i64 (ThrE vb n)])), some (63, some (.tuple #[.agg #[.int .i64 ((ThrS vb n).inn.lo), .int .i64 ((ThrS vb n).inn.hi)], .agg #[.int .i64 ((ThrS vb n).out.lo), .int .i64 ((ThrS vb n).out.hi)], .bool ((ThrS vb n).there), .int .i64 (ThrE vb n)])), some (70, some (.agg #[.int .i64 ((ThrS vb n).inn.lo), .int .i64 ((ThrS vb n).inn.hi)])), some (71, some (.agg #[.int .i64 ((ThrS vb n).out.lo), .int .i64 ((ThrS vb n).out.hi)])), some (72, some (.bool ((ThrS vb n).there))), some (73, some (.int .i64 (ThrE vb n))), some (14, none), some (15, none), none, none, some (16, some (.bool ((ThrS vb n).there))), some (17, some (.int .i64 (ThrE vb n)))] [[],[0],[1],[2],[],[3,4,3],[5],[6],[6],[6],[6],[],[],[11,7,5,0,1,2,3,4,5,6,7,11,12],[12,8,13,0,1,2,3,4,5,6,7,8,11,12,13],[9,14,0,1,2,3,4,5,6,7,8,9,11,12,13,14],[10,15,0,1,2,3,4,5,6,7,8,9,10,11,12,13,14,15]] (fun D ρ w => Upd (fun _ => False) w175 w ∧ (D 3 = true → ∃ aoC660 bC660 cpC660, ρ 3 = .agg #[.int .i64 vb.st.lo, .int .i64 vb.st.hi, .slice aoC660 ((vb.runs).length) cpC660, .int .i64 vb.len, .int .i64 vb.wid] ∧ (D 5 = false → (Sl encRun 6 w aoC660 bC660 0 vb.runs ∧ w175.heap.size ≤ bC660))) ∧ (D 11 = true → ∃ bk672, ρ 11 = .pointer (some ⟨bk672, 0, none⟩) ∧ w175.heap.size ≤ bk672 ∧ Blk w bk672 45 [(bif D 13 then .int .i64 ((ThrS vb n).inn.lo) else .int .i64 0), (bif D 13 then .int .i64 ((ThrS vb n).inn.hi) else .int .i64 0)]) ∧ (D 12 = true → ∃ bk677, ρ 12 = .pointer (some ⟨bk677, 0, none⟩) ∧ w175.heap.size ≤ bk677 ∧ Blk w bk677 45 [(bif D 14 then .int .i64 ((ThrS vb n).out.lo) else .int .i64 0), (bif D 14 then .int .i64 ((ThrS vb n).out.hi) else .int .i64 0)]) ∧ (∀ b c, D 11 = true → D 12 = true → ρ 11 = .pointer (some ⟨b, 0, none⟩) → ρ 12 = .pointer (some ⟨c, 0, none⟩) → b ≠ c)) rfl rfl rfl (by kernel_rfl) (by kernel_rfl) ⟨(Upd.drew _).to, (fun h => by cases h), (fun h => by cases h), (fun h => by cases h), (fun _ _ h => by cases h)⟩ ⟨?_, ?_, ?_, ?_, ?_, ?_, ?_, ?_, ?_, ?_, ?_, ?_, ?_, ?_, ?_, ?_, ?_, trivial⟩ ?_)
      · exact fun D ρ w _ _ _ hW => ⟨[(13, .int .i64 1)], ⟨fo rfl rfl, trivial⟩, fun Lr => t_move rfl rfl rfl (dz rfl hW)⟩
      ·
       intro D ρ w682 hcD hnD hdD hW
       obtain ⟨u683, F684, F685, F686, P687⟩ := hW
       have zu683 := u683.size
       refine ⟨[(3, .pointer (some ⟨bk2, 0, none⟩)), (64, .int .i64 1)], ⟨fo rfl rfl, fi 0 rfl rfl rfl, trivial⟩, fun Lr => ?_⟩
       show WL _ _ _ _ _ _ _ ((3, .pointer (some ⟨bk2, 0, none⟩)) :: (64, .int .i64 1) :: Lr) _
       refine t_indexArr (j := 1) (5) Try.underlying94 Try.sizeOf48 rfl rfl rfl rfl rfl (by decide) rfl ?_
       exact dz rfl ⟨u683, F684, F685, F686, P687⟩
      ·
       intro D ρ w689 hcD hnD hdD hW
       obtain ⟨u690, F691, F692, F693, P694⟩ := hW
       have zu690 := u690.size
       refine ⟨[(65, .pointer (some ⟨bk2, 5, none⟩))], ⟨fi 1 rfl rfl rfl, trivial⟩, fun Lr => ?_⟩
       show WL _ _ _ _ _ _ _ ((65, .pointer (some ⟨bk2, 5, none⟩)) :: Lr) _
       have B696 := (B658.keep u690 (fun h => h))
       refine t_loadN (vs := [.int .i64 vb.st.lo, .int .i64 vb.st.hi, .slice ao2 ((vb.runs).length) cap2, .int .i64 vb.len, .int .i64 vb.wid]) Try.isAgg48 Try.sizeOf48 rfl rfl rfl (B696.at.sub 5 5) rfl ?_
       exact dz rfl ⟨u690, F691, F692, F693, P694⟩
      ·
       intro D ρ w697 hcD hnD hdD hW
       obtain ⟨u698, F699, F700, F701, P702⟩ := hW
       have zu698 := u698.size
       have E703 := E649.next u698 (fun _ _ h => h.elim)
       refine ⟨[(66, .agg #[.int .i64 vb.st.lo, .int .i64 vb.st.hi, .slice ao2 ((vb.runs).length) cap2, .int .i64 vb.len, .int .i64 vb.wid])], ⟨fi 2 rfl rfl rfl, trivial⟩, fun Lr => ?_⟩
       show WL _ _ _ _ _ _ _ ((66, .agg #[.int .i64 vb.st.lo, .int .i64 vb.st.hi, .slice ao2 ((vb.runs).length) cap2, .int .i64 vb.len, .int .i64 vb.wid]) :: Lr) _
       refine t_call (vs := [.agg #[.int .i64 vb.st.lo, .int .i64 vb.st.hi, .slice ao2 ((vb.runs).length) cap2, .int .i64 vb.len, .int .i64 vb.wid]]) own28 rfl rfl rfl rfl (copied_c vb ao2 b2 o2 cap2 _ (hs2.keep E703 (fun _ h => h)) (by omega)) (fun v705 w706 r708 => ?_)
       obtain ⟨⟨aoC704, bC704, cpC704, rfl, hC704, gebC704⟩, u707⟩ := r708
       have zu707 := u707.size
       exact dzn rfl ⟨(u698.next u707 (fun _ _ h => h.elim)), (fun _ => ⟨aoC704, bC704, cpC704, rfl, fun _ => ⟨hC704, by omega⟩⟩), (fun h => by obtain ⟨b, e, hge, hB⟩ := F700 h; exact ⟨b, e, hge, (hB.keep u707 (fun h => h))⟩), (fun h => by obtain ⟨b, e, hge, hB⟩ := F701 h; exact ⟨b, e, hge, (hB.keep u707 (fun h => h))⟩), P702⟩
      ·
       intro D ρ w710 hcD hnD hdD hW
       obtain ⟨u711, F712, F713, F714, P715⟩ := hW
       have zu711 := u711.size
       refine ⟨[(4, .pointer (some ⟨bk7, 0, none⟩))], ⟨fo rfl rfl, trivial⟩, fun Lr => ?_⟩
       show WL _ _ _ _ _ _ _ ((4, .pointer (some ⟨bk7, 0, none⟩)) :: Lr) _
       have B717 := (B659.keep u711 (fun h => h))
       refine t_loadN (vs := [.int .i64 n.frm, .int .i64 n.to, .int .i64 n.wid, .bool n.single]) Try.isAgg72 Try.sizeOf72 rfl rfl rfl (B717.at.sub 0 4) rfl ?_
       exact dz rfl ⟨u711, F712, F713, F714, P715⟩
      ·
       intro D ρ w718 hcD hnD hdD hW
       obtain ⟨u719, F720, F721, F722, P723⟩ := hW
       have zu719 := u719.size
       obtain ⟨aoC660, bC660, cpC660, e725, H726⟩ := F720 (hdD 3 rfl)
       have H727 := H726 hnD
       have hsH727 := H727.1
       have hgH727 := H727.2
       refine ⟨[(67, .agg #[.int .i64 vb.st.lo, .int .i64 vb.st.hi, .slice aoC660 ((vb.runs).length) cpC660, .int .i64 vb.len, .int .i64 vb.wid]), (68, .agg #[.int .i64 n.frm, .int .i64 n.to, .int .i64 n.wid, .bool n.single])], ⟨fi 3 rfl rfl e725.symm, fi 4 rfl rfl rfl, trivial⟩, fun Lr => ?_⟩
       show WL _ _ _ _ _ _ _ ((67, .agg #[.int .i64 vb.st.lo, .int .i64 vb.st.hi, .slice aoC660 ((vb.runs).length) cpC660, .int .i64 vb.len, .int .i64 vb.wid]) :: (68, .agg #[.int .i64 n.frm, .int .i64 n.to, .int .i64 n.wid, .bool n.single]) :: Lr) _
       refine t_call (vs := [.agg #[.int .i64 vb.st.lo, .int .i64 vb.st.hi, .slice aoC660 ((vb.runs).length) cpC660, .int .i64 vb.len, .int .i64 vb.wid], .agg #[.int .i64 n.frm, .int .i64 n.to, .int .i64 n.wid, .bool n.single]]) own40 rfl rfl rfl rfl (Through_c vb aoC660 bC660 0 cpC660 n _ hsH727 (by omega)) (fun v728 w729 r731 => ?_)
       obtain ⟨rfl, u730⟩ := r731
       have zu730 := u730.size
       exact dz rfl ⟨(u719.next u730 (fun _ _ h => h.elim)), (fun h => by obtain ⟨aoC660, bC660, cpC660, e, _⟩ := F720 h; exact ⟨aoC660, bC660, cpC660, e, fun h => by cases h⟩), (fun h => by obtain ⟨b, e, hge, hB⟩ := F721 h; exact ⟨b, e, hge, (hB.keep u730 (fun h => h))⟩), (fun h => by obtain ⟨b, e, hge, hB⟩ := F722 h; exact ⟨b, e, hge, (hB.keep u730 (fun h => h))⟩), P723⟩
      · exact fun D ρ w _ _ _ hW => ⟨[(69, .tuple #[.agg #[.int .i64 ((ThrS vb n).inn.lo), .int .i64 ((ThrS vb n).inn.hi)], .agg #[.int .i64 ((ThrS vb n).out.lo), .int .i64 ((ThrS vb n).out.hi)], .bool ((ThrS vb n).there), .int .i64 (ThrE vb n)])], ⟨fi 5 rfl rfl rfl, trivial⟩, fun Lr => t_move rfl rfl rfl (dz rfl hW)⟩
      · exact fun D ρ w _ _ _ hW => ⟨[(63, .tuple #[.agg #[.int .i64 ((ThrS vb n).inn.lo), .int .i64 ((ThrS vb n).inn.hi)], .agg #[.int .i64 ((ThrS vb n).out.lo), .int .i64 ((ThrS vb n).out.hi)], .bool ((ThrS vb n).there), .int .i64 (ThrE vb n)])], ⟨fi 6 rfl rfl rfl, trivial⟩, fun Lr => t_extract (vs := [.agg #[.int .i64 ((ThrS vb n).inn.lo), .int .i64 ((ThrS vb n).inn.hi)], .agg #[.int .i64 ((ThrS vb n).out.lo), .int .i64 ((ThrS vb n).out.hi)], .bool ((ThrS vb n).there), .int .i64 (ThrE vb n)]) rfl rfl rfl rfl (dz rfl hW)⟩
      · exact fun D ρ w _ _ _ hW => ⟨[(63, .tuple #[.agg #[.int .i64 ((ThrS vb n).inn.lo), .int .i64 ((ThrS vb n).inn.hi)], .agg #[.int .i64 ((ThrS vb n).out.lo), .int .i64 ((ThrS vb n).out.hi)], .bool ((ThrS vb n).there), .int .i64 (ThrE vb n)])], ⟨fi 6 rfl rfl rfl, trivial⟩, fun Lr => t_extract (vs := [.agg #[.int .i64 ((ThrS vb n).inn.lo), .int .i64 ((ThrS vb n).inn.hi)], .agg #[.int .i64 ((ThrS vb n).out.lo), .int .i64 ((ThrS vb n).out.hi)], .bool ((ThrS vb n).there), .int .i64 (ThrE vb n)]) rfl rfl rfl rfl (dz rfl hW)⟩
      · exact fun D ρ w _ _ _ hW => ⟨[(63, .tuple #[.agg #[.int .i64 ((ThrS vb n).inn.lo), .int .i64 ((ThrS vb n).inn.hi)], .agg #[.int .i64 ((ThrS vb n).out.lo), .int .i64 ((ThrS vb n).out.hi)], .bool ((ThrS vb n).there), .int .i64 (ThrE vb n)])], ⟨fi 6 rfl rfl rfl, trivial⟩, fun Lr => t_extract (vs := [.agg #[.int .i64 ((ThrS vb n).inn.lo), .int .i64 ((ThrS vb n).inn.hi)], .agg #[.int .i64 ((ThrS vb n).out.lo), .int .i64 ((ThrS vb n).out.hi)], .bool ((ThrS vb n).there), .int .i64 (ThrE vb n)]) rfl rfl rfl rfl (dz rfl hW)⟩
      · exact fun D ρ w _ _ _ hW => ⟨[(63, .tuple #[.agg #[.int .i64 ((ThrS vb n).inn.lo), .int .i64 ((ThrS vb n).inn.hi)], .agg #[.int .i64 ((ThrS vb n).out.lo), .int .i64 ((ThrS vb n).out.hi)], .bool ((ThrS vb n).there), .int .i64 (ThrE vb n)])], ⟨fi 6 rfl rfl rfl, trivial⟩, fun Lr => t_extract (vs := [.agg #[.int .i64 ((ThrS vb n).inn.lo), .int .i64 ((ThrS vb n).inn.hi)], .agg #[.int .i64 ((ThrS vb n).out.lo), .int .i64 ((ThrS vb n).out.hi)], .bool ((ThrS vb n).there), .int .i64 (ThrE vb n)]) rfl rfl rfl rfl (dz rfl hW)⟩
      ·
       intro D ρ w733 hcD hnD hdD hW
       obtain ⟨u734, F735, F736, F737, P738⟩ := hW
       have zu734 := u734.size
       refine ⟨[], trivial, fun Lr => ?_⟩
       show WL _ _ _ _ _ _ _ (Lr) _
       refine t_alloc (cs := [.int .i64 0, .int .i64 0]) Try.zeroValue45 rfl rfl rfl (fun bk740 w741 ebk740 sbk740 B742 u743 => ?_)
       have zu743 := u743.size
       have d13 := hcD.late 13 hnD rfl
       exact dzn rfl ⟨(u734.next u743 (fun _ _ h => h.elim)), (fun h => by obtain ⟨aoC660, bC660, cpC660, e, hB⟩ := F735 h; exact ⟨aoC660, bC660, cpC660, e, fun h2 => ⟨((hB h2).1.keep u743 (fun _ h => h)), (hB h2).2⟩⟩), (fun _ => ⟨bk740, rfl, (by omega), (by show Blk w741 bk740 45 [(bif D 13 then .int .i64 ((ThrS vb n).inn.lo) else .int .i64 0), (bif D 13 then .int .i64 ((ThrS vb n).inn.hi) else .int .i64 0)]; simp only [d13, cond_false]; exact B742)⟩), (fun h => by obtain ⟨b, e, hge, hB⟩ := F737 h; exact ⟨b, e, hge, (hB.keep u743 (fun h => h))⟩), (fun b c h1 h2 e1 e2 => by obtain ⟨b1, e3, _, hB⟩ := F737 h2; have hl := hB.lt; have e4 : Value.pointer (some ⟨b1, 0, none⟩) = .pointer (some ⟨c, 0, none⟩) := e3.symm.trans e2; have e5 : Value.pointer (some ⟨bk740, 0, none⟩) = .pointer (some ⟨b, 0, none⟩) := e1; simp at e4 e5; omega)⟩
      ·
       intro D ρ w745 hcD hnD hdD hW
       obtain ⟨u746, F747, F748, F749, P750⟩ := hW
       have zu746 := u746.size
       refine ⟨[], trivial, fun Lr => ?_⟩
       show WL _ _ _ _ _ _ _ (Lr) _
       refine t_alloc (cs := [.int .i64 0, .int .i64 0]) Try.zeroValue45 rfl rfl rfl (fun bk752 w753 ebk752 sbk752 B754 u755 => ?_)
       have zu755 := u755.size
       have d14 := hcD.late 14 hnD rfl
       exact dzn rfl ⟨(u746.next u755 (fun _ _ h => h.elim)), (fun h => by obtain ⟨aoC660, bC660, cpC660, e, hB⟩ := F747 h; exact ⟨aoC660, bC660, cpC660, e, fun h2 => ⟨((hB h2).1.keep u755 (fun _ h => h)), (hB h2).2⟩⟩), (fun h => by obtain ⟨b, e, hge, hB⟩ := F748 h; exact ⟨b, e, hge, (hB.keep u755 (fun h => h))⟩), (fun _ => ⟨bk752, rfl, (by omega), (by show Blk w753 bk752 45 [(bif D 14 then .int .i64 ((ThrS vb n).out.lo) else .int .i64 0), (bif D 14 then .int .i64 ((ThrS vb n).out.hi) else .int .i64 0)]; simp only [d14, cond_false]; exact B754)⟩), (fun b c h1 h2 e1 e2 => by obtain ⟨b1, e3, _, hB⟩ := F748 h1; have hl := hB.lt; have e4 : Value.pointer (some ⟨b1, 0, none⟩) = .pointer (some ⟨b, 0, none⟩) := e3.symm.trans e1; have e5 : Value.pointer (some ⟨bk752, 0, none⟩) = .pointer (some ⟨c, 0, none⟩) := e2; simp at e4 e5; omega)⟩
      ·
       intro D ρ w757 hcD hnD hdD hW
       obtain ⟨u758, F759, F760, F761, P762⟩ := hW
       have zu758 := u758.size
       obtain ⟨bk672, e764, gebk672, B765⟩ := F760 (hdD 11 rfl)
       have B766 := B765
       simp only [hnD, cond_false] at B766
       refine ⟨[(14, .pointer (some ⟨bk672, 0, none⟩)), (70, .agg #[.int .i64 ((ThrS vb n).inn.lo), .int .i64 ((ThrS vb n).inn.hi)])], ⟨fi 11 rfl rfl e764.symm, fi 7 rfl rfl rfl, trivial⟩, fun Lr => ?_⟩
       show WL _ _ _ _ _ _ _ ((14, .pointer (some ⟨bk672, 0, none⟩)) :: (70, .agg #[.int .i64 ((ThrS vb n).inn.lo), .int .i64 ((ThrS vb n).inn.hi)]) :: Lr) _
       refine t_store (vs := [.int .i64 ((ThrS vb n).inn.lo), .int .i64 ((ThrS vb n).inn.hi)]) Try.sizeOf45 rfl rfl rfl B766 rfl rfl (Nat.le_of_ble_eq_true rfl) (by simp [Value.oneCell']) (fun w767 sw767 B769 u768 => ?_)
       have zu768 := u768.size
       have B769 : Blk w767 bk672 45 [.int .i64 ((ThrS vb n).inn.lo), .int .i64 ((ThrS vb n).inn.hi)] := B769
       exact dz0 rfl ⟨(u758.next u768 (fun i hi (h : i = bk672) => show False by first | omega | assumption)), (fun h => by obtain ⟨aoC660, bC660, cpC660, e, _⟩ := F759 h; exact ⟨aoC660, bC660, cpC660, e, fun h2 => absurd ((hdD 5 rfl).symm.trans h2) (by decide)⟩), (fun _ => ⟨bk672, e764, gebk672, (by show Blk w767 bk672 45 [.int .i64 ((ThrS vb n).inn.lo), .int .i64 ((ThrS vb n).inn.hi)]; exact B769)⟩), (fun h => by obtain ⟨b, e, hge, hB⟩ := F761 h; have hne := P762 _ _ (hdD 11 rfl) h e764 e; exact ⟨b, e, hge, (hB.keep u768 (show ¬ (b = bk672) by first | omega | assumption))⟩), P762⟩
      ·
       intro D ρ w771 hcD hnD hdD hW
       obtain ⟨u772, F773, F774, F775, P776⟩ := hW
       have zu772 := u772.size
       obtain ⟨bk677, e778, gebk677, B779⟩ := F775 (hdD 12 rfl)
       have B780 := B779
       simp only [hnD, cond_false] at B780
       refine ⟨[(15, .pointer (some ⟨bk677, 0, none⟩)), (71, .agg #[.int .i64 ((ThrS vb n).out.lo), .int .i64 ((ThrS vb n).out.hi)])], ⟨fi 12 rfl rfl e778.symm, fi 8 rfl rfl rfl, trivial⟩, fun Lr => ?_⟩
       show WL _ _ _ _ _ _ _ ((15, .pointer (some ⟨bk677, 0, none⟩)) :: (71, .agg #[.int .i64 ((ThrS vb n).out.lo), .int .i64 ((ThrS vb n).out.hi)]) :: Lr) _
       refine t_store (vs := [.int .i64 ((ThrS vb n).out.lo), .int .i64 ((ThrS vb n).out.hi)]) Try.sizeOf45 rfl rfl rfl B780 rfl rfl (Nat.le_of_ble_eq_true rfl) (by simp [Value.oneCell']) (fun w781 sw781 B783 u782 => ?_)
       have zu782 := u782.size
       have B783 : Blk w781 bk677 45 [.int .i64 ((ThrS vb n).out.lo), .int .i64 ((ThrS vb n).out.hi)] := B783
       exact dz0 rfl ⟨(u772.next u782 (fun i hi (h : i = bk677) => show False by first | omega | assumption)), (fun h => by obtain ⟨aoC660, bC660, cpC660, e, _⟩ := F773 h; exact ⟨aoC660, bC660, cpC660, e, fun h2 => absurd ((hdD 5 rfl).symm.trans h2) (by decide)⟩), (fun h => by obtain ⟨b, e, hge, hB⟩ := F774 h; have hne := P776 _ _ h (hdD 12 rfl) e e778; exact ⟨b, e, hge, (hB.keep u782 (show ¬ (b = bk677) by first | omega | assumption))⟩), (fun _ => ⟨bk677, e778, gebk677, (by show Blk w781 bk677 45 [.int .i64 ((ThrS vb n).out.lo), .int .i64 ((ThrS vb n).out.hi)]; exact B783)⟩), P776⟩
      · exact fun D ρ w _ _ _ hW => ⟨[(72, .bool ((ThrS vb n).there))], ⟨fi 9 rfl rfl rfl, trivial⟩, fun Lr => t_assign rfl rfl rfl (dz rfl hW)⟩
      · exact fun D ρ w _ _ _ hW => ⟨[(73, .int .i64 (ThrE vb n))], ⟨fi 10 rfl rfl rfl, trivial⟩, fun Lr => t_assign rfl rfl rfl (dz rfl hW)⟩
      intro ρ w785 hW
      obtain ⟨u786, F787, F788, F789, P790⟩ := hW
      have zu786 := u786.size
      have E791 := E649.next u786 (fun _ _ h => h.elim)
      obtain ⟨bk672, e793, gebk672, B794⟩ := F788 rfl
      have B794 : Blk w785 bk672 45 [.int .i64 ((ThrS vb n).inn.lo), .int .i64 ((ThrS vb n).inn.hi)] := B794
      have lt_bk672 := B794.lt
      obtain ⟨bk677, e795, gebk677, B796⟩ := F789 rfl
      have B796 : Blk w785 bk677 45 [.int .i64 ((ThrS vb n).out.lo), .int .i64 ((ThrS vb n).out.hi)] := B796
      have lt_bk677 := B796.lt
      have nbk672_bk677 := P790 _ _ rfl rfl e793 e795
      refine QK.weak [(3, .pointer (some ⟨bk2, 0, none⟩)), (4, .pointer (some ⟨bk7, 0, none⟩)), (5, .pointer (some ⟨bk12, 0, none⟩)), (7, .bool (MeetOk va vb n && mayB (thrS va n) (thrS vb n))), (8, .bool (MeetOk va vb n && mustB (thrS va n) (thrS vb n))), (10, .pointer (some ⟨bk148, 0, none⟩)), (11, .pointer (some ⟨bk153, 0, none⟩)), (12, .bool ((thrS va n).there)), (13, .int .i64 1), (14, .pointer (some ⟨bk672, 0, none⟩)), (15, .pointer (some ⟨bk677, 0, none⟩)), (16, .bool ((ThrS vb n).there)), (17, .int .i64 (ThrE vb n)), (59, .int .i64 1), (60, .bool true), (61, .int .i64 0), (62, .int .i64 1), (63, .tuple #[.agg #[.int .i64 ((ThrS vb n).inn.lo), .int .i64 ((ThrS vb n).inn.hi)], .agg #[.int .i64 ((ThrS vb n).out.lo), .int .i64 ((ThrS vb n).out.hi)], .bool ((ThrS vb n).there), .int .i64 (ThrE vb n)]), (64, .int .i64 1), (65, .pointer (some ⟨bk2, 5, none⟩)), (66, .agg #[.int .i64 vb.st.lo, .int .i64 vb.st.hi, .slice ao2 ((vb.runs).length) cap2, .int .i64 vb.len, .int .i64 vb.wid]), (68, .agg #[.int .i64 n.frm, .int .i64 n.to, .int .i64 n.wid, .bool n.single]), (69, .tuple #[.agg #[.int .i64 ((ThrS vb n).inn.lo), .int .i64 ((ThrS vb n).inn.hi)], .agg #[.int .i64 ((ThrS vb n).out.lo), .int .i64 ((ThrS vb n).out.hi)], .bool ((ThrS vb n).there), .int .i64 (ThrE vb n)]), (70, .agg #[.int .i64 ((ThrS vb n).inn.lo), .int .i64 ((ThrS vb n).inn.hi)]), (71, .agg #[.int .i64 ((ThrS vb n).out.lo), .int .i64 ((ThrS vb n).out.hi)]), (72, .bool ((ThrS vb n).there)), (73, .int .i64 (ThrE vb n))] ⟨rfl, rfl, rfl, rfl, rfl, rfl, rfl, rfl, rfl, (look_nd (j := 11) rfl rfl rfl e793), (look_nd (j := 12) rfl rfl rfl e795), rfl, rfl, rfl, rfl, rfl, rfl, rfl, rfl, rfl, rfl, rfl, rfl, rfl, rfl, rfl, rfl, trivial⟩ (hK657 _ _ (c_seq fun K797 hK797 => (c_seq fun K798 hK798 => (c_region (t_same 17 (v := .int .i64 0) rfl (congrArg (Value.int .i64) (by simp [ThrE, hk2, hm, hEb])) (t_same 16 (v := .bool ((thrS vb n).there)) rfl (congrArg Value.bool (by simp [ThrS, hk2, hm])) ?_))))))
      have B799 : Blk w785 bk672 45 [.int .i64 ((thrS vb n).inn.lo), .int .i64 ((thrS vb n).inn.hi)] := by
       have e : ([.int .i64 ((ThrS vb n).inn.lo), .int .i64 ((ThrS vb n).inn.hi)] : List Value) = [.int .i64 ((thrS vb n).inn.lo), .int .i64 ((thrS vb n).inn.hi)] := by simp [ThrS, hk2, hm]
       rw [← e]; exact B794
      have B800 : Blk w785 bk677 45 [.int .i64 ((thrS vb n).out.lo), .int .i64 ((thrS vb n).out.hi)] := by
       have e : ([.int .i64 ((ThrS vb n).out.lo), .int .i64 ((ThrS vb n).out.hi)] : List Value) = [.int .i64 ((thrS vb n).out.lo), .int .i64 ((thrS vb n).out.hi)] := by simp [ThrS, hk2, hm]
       rw [← e]; exact B796
      refine t_move rfl rfl rfl (t_cmp rfl rfl rfl rfl rfl (t_samehd (v := .bool false) rfl (t_nil' (hK798 _ _ (c_cond_f rfl (c_skip (hK797 _ _ (c_seq fun K801 hK801 => (c_cut (γ := Unit) (fun _x => [(3, .pointer (some ⟨bk2, 0, none⟩)), (4, .pointer (some ⟨bk7, 0, none⟩)), (5, .pointer (some ⟨bk12, 0, none⟩)), (7, .bool (MeetOk va vb n && mayB (thrS va n) (thrS vb n))), (8, .bool (MeetOk va vb n && mustB (thrS va n) (thrS vb n))), (10, .pointer (some ⟨bk148, 0, none⟩)), (11, .pointer (some ⟨bk153, 0, none⟩)), (12, .bool ((thrS va n).there && (thrS vb n).there)), (13, .int .i64 1), (14, .pointer (some ⟨bk672, 0, none⟩)), (15, .pointer (some ⟨bk677, 0, none⟩)), (16, .bool ((thrS vb n).there)), (17, .int .i64 0), (59, .int .i64 1), (60, .bool true), (61, .int .i64 0), (62, .int .i64 1), (63, .tuple #[.agg #[.int .i64 ((ThrS vb n).inn.lo), .int .i64 ((ThrS vb n).inn.hi)], .agg #[.int .i64 ((ThrS vb n).out.lo), .int .i64 ((ThrS vb n).out.hi)], .bool ((ThrS vb n).there), .int .i64 (ThrE vb n)]), (64, .int .i64 1), (65, .pointer (some ⟨bk2, 5, none⟩)), (66, .agg #[.int .i64 vb.st.lo, .int .i64 vb.st.hi, .slice ao2 ((vb.runs).length) cap2, .int .i64 vb.len, .int .i64 vb.wid]), (68, .agg #[.int .i64 n.frm, .int .i64 n.to, .int .i64 n.wid, .bool n.single]), (69, .tuple #[.agg #[.int .i64 ((ThrS vb n).inn.lo), .int .i64 ((ThrS vb n).inn.hi)], .agg #[.int .i64 ((ThrS vb n).out.lo), .int .i64 ((ThrS vb n).out.hi)], .bool ((ThrS vb n).there), .int .i64 (ThrE vb n)]), (70, .agg #[.int .i64 ((ThrS vb n).inn.lo), .int .i64 ((ThrS vb n).inn.hi)]), (71, .agg #[.int .i64 ((ThrS vb n).out.lo), .int .i64 ((ThrS vb n).out.hi)]), (72, .bool ((ThrS vb n).there)), (73, .int .i64 (ThrE vb n)), (74, .int .i64 0), (75, .bool false)]) (fun _x w => Upd (fun _ => False) w785 w) (fun K803 hK803 => ?_) ?_)))))))))
      ·
       refine c_region (t_move rfl rfl rfl (t_move rfl rfl rfl (t_split 77 rfl (fun g77 => ?_) (fun g77 => ?_))))
       ·
        refine t_move rfl rfl rfl (t_pick_t rfl rfl rfl rfl (t_assign rfl rfl rfl (t_nil' ?_)))
        exact hK803 () _ _ ⟨rfl, rfl, rfl, rfl, rfl, rfl, rfl, (by exact congrArg some (congrArg Value.bool (by rw [g77]; simp))), rfl, rfl, rfl, rfl, rfl, rfl, rfl, rfl, rfl, rfl, rfl, rfl, rfl, rfl, rfl, rfl, rfl, rfl, rfl, rfl, rfl, trivial⟩ (Upd.refl _ _)
       ·
        refine t_skip rfl rfl rfl (t_pick_f rfl rfl rfl rfl (t_assign rfl rfl rfl (t_nil' ?_)))
        exact hK803 () _ _ ⟨rfl, rfl, rfl, rfl, rfl, rfl, rfl, (by exact congrArg some (congrArg Value.bool (by rw [g77]; simp))), rfl, rfl, rfl, rfl, rfl, rfl, rfl, rfl, rfl, rfl, rfl, rfl, rfl, rfl, rfl, rfl, rfl, rfl, rfl, rfl, rfl, trivial⟩ (Upd.refl _ _)
      ·
       intro _x w804 u805
       have zu805 := u805.size
       have E806 := E791.next u805 (fun _ _ h => h.elim)
       refine c_seq fun K807 hK807 => (c_region (t_move rfl rfl rfl (t_not rfl rfl rfl (t_nil' (hK807 _ _ (c_cond rfl (fun g81 => ?_) (fun g81 => ?_)))))))
       ·
        have hth1 : (thrS vb n).there = false := by simpa using g81
        have hS1 := thrS_not hth1
        have B808 := (B799.keep u805 (fun h => h))
        have B809 : Blk w804 bk672 45 [.int .i64 0, .int .i64 0] := by
         have e : ([.int .i64 ((thrS vb n).inn.lo), .int .i64 ((thrS vb n).inn.hi)] : List Value) = [.int .i64 0, .int .i64 0] := by simp [hS1]
         rw [← e]; exact B808
        have B810 := (B800.keep u805 (fun h => h))
        have B811 : Blk w804 bk677 45 [.int .i64 0, .int .i64 0] := by
         have e : ([.int .i64 ((thrS vb n).out.lo), .int .i64 ((thrS vb n).out.hi)] : List Value) = [.int .i64 0, .int .i64 0] := by simp [hS1]
         rw [← e]; exact B810
        refine c_seq fun K812 hK812 => (c_seq fun K813 hK813 => (c_region (t_loadN (vs := [.int .i64 0, .int .i64 0]) Try.isAgg45 Try.sizeOf45 rfl rfl rfl (B809.at.sub 0 2) rfl (t_build (ps := []) (v := .agg #[.int .i64 0, .int .i64 0]) rfl rfl ⟨rfl, rfl⟩ (fun w => by kernel_rfl) (t_neS (xs := [.int .i64 0, .int .i64 0]) (ys := [.int .i64 0, .int .i64 0]) (by kernel_rfl) (eqIn45 9998 0 0 0 0) rfl rfl rfl rfl (t_samehd (v := .bool false) rfl (t_move rfl rfl rfl (t_loadN (vs := [.int .i64 0, .int .i64 0]) Try.isAgg45 Try.sizeOf45 rfl rfl rfl (B811.at.sub 0 2) rfl (t_loadN (vs := [.int .i64 0, .int .i64 0]) Try.isAgg45 Try.sizeOf45 rfl rfl rfl (B809.at.sub 0 2) rfl (t_neS (xs := [.int .i64 0, .int .i64 0]) (ys := [.int .i64 0, .int .i64 0]) (by kernel_rfl) (eqIn45 9998 0 0 0 0) rfl rfl rfl rfl (t_samehd (v := .bool false) rfl (t_pick_f rfl rfl rfl rfl (t_nil' (hK813 _ _ (c_cond_f rfl (c_skip (hK812 _ _ (c_exit ?_))))))))))))))))))
        have B814 := ((I647.keep u786 (fun h => h)).keep u805 (fun h => h))
        have B815 : Blk w804 bk148 82 [.int .i64 (if (thrS va n).there = true then (tru va s0 tp0 tw0 (entP va n)) else 0), .int .i64 (if (thrS vb n).there = true then (tru vb s1 tp1 tw1 (entP vb n)) else 0)] := by
         have e : ([.int .i64 (if (thrS va n).there = true then (tru va s0 tp0 tw0 (entP va n)) else 0), .int .i64 0] : List Value) = [.int .i64 (if (thrS va n).there = true then (tru va s0 tp0 tw0 (entP va n)) else 0), .int .i64 (if (thrS vb n).there = true then (tru vb s1 tp1 tw1 (entP vb n)) else 0)] := by simp [hth1]
         rw [← e]; exact B814
        have B816 := ((I648.keep u786 (fun h => h)).keep u805 (fun h => h))
        have B817 : Blk w804 bk153 82 [.int .i64 (if (thrS va n).there = true then (tru va s0 tp0 tw0 (leaP va n)) else 0), .int .i64 (if (thrS vb n).there = true then (tru vb s1 tp1 tw1 (leaP vb n)) else 0)] := by
         have e : ([.int .i64 (if (thrS va n).there = true then (tru va s0 tp0 tw0 (leaP va n)) else 0), .int .i64 0] : List Value) = [.int .i64 (if (thrS va n).there = true then (tru va s0 tp0 tw0 (leaP va n)) else 0), .int .i64 (if (thrS vb n).there = true then (tru vb s1 tp1 tw1 (leaP vb n)) else 0)] := by simp [hth1]
         rw [← e]; exact B816
        exact hK654 () _ _ ⟨rfl, rfl, rfl, rfl, rfl, rfl, rfl, rfl, rfl, rfl, rfl, rfl, rfl, trivial⟩ ⟨(((Upd.refl _ _).next u786 (fun _ _ h => h.elim)).next u805 (fun _ _ h => h.elim)), B815, B817⟩
       ·
        have hth1 : (thrS vb n).there = true := by simpa using g81
        obtain ⟨hS1, he1, hl1⟩ := thrS_is hth1
        have B818 := (B799.keep u805 (fun h => h))
        have B819 : Blk w804 bk672 45 [.int .i64 ((arr vb (entP vb n)).lo), .int .i64 ((arr vb (entP vb n)).hi)] := by
         have e : ([.int .i64 ((thrS vb n).inn.lo), .int .i64 ((thrS vb n).inn.hi)] : List Value) = [.int .i64 ((arr vb (entP vb n)).lo), .int .i64 ((arr vb (entP vb n)).hi)] := by simp [hS1]
         rw [← e]; exact B818
        have B820 := (B800.keep u805 (fun h => h))
        have B821 : Blk w804 bk677 45 [.int .i64 ((arr vb (leaP vb n)).lo), .int .i64 ((arr vb (leaP vb n)).hi)] := by
         have e : ([.int .i64 ((thrS vb n).out.lo), .int .i64 ((thrS vb n).out.hi)] : List Value) = [.int .i64 ((arr vb (leaP vb n)).lo), .int .i64 ((arr vb (leaP vb n)).hi)] := by simp [hS1]
         rw [← e]; exact B820
        refine c_skip (hK801 _ _ (c_seq fun K822 hK822 => (c_region (t_move rfl rfl rfl (t_indexArr (j := 1) (5) Try.underlying94 Try.sizeOf48 rfl rfl rfl rfl rfl (by decide) rfl (t_field Try.underlying48 rfl Try.sizeOf3 (8) rfl rfl rfl rfl ?_))))))
        have B823 := ((B658.keep u786 (fun h => h)).keep u805 (fun h => h))
        refine t_load Try.isAgg3 rfl rfl rfl (B823.get rfl) (t_ari rfl rfl rfl rfl rfl (by omega) (t_quo rfl rfl rfl rfl (by omega) (by omega) (t_same 95 (v := .int .i64 (tail vb)) rfl (congrArg (Value.int .i64) ht1.2) (t_assign rfl rfl rfl (t_nil' (hK822 _ _ (c_seq fun K824 hK824 => ?_)))))))
        have B825 := ((B659.keep u786 (fun h => h)).keep u805 (fun h => h))
        refine WC.weak [(3, .pointer (some ⟨bk2, 0, none⟩)), (4, .pointer (some ⟨bk7, 0, none⟩)), (5, .pointer (some ⟨bk12, 0, none⟩)), (7, .bool (MeetOk va vb n && mayB (thrS va n) (thrS vb n))), (8, .bool (MeetOk va vb n && mustB (thrS va n) (thrS vb n))), (10, .pointer (some ⟨bk148, 0, none⟩)), (11, .pointer (some ⟨bk153, 0, none⟩)), (12, .bool ((thrS va n).there && (thrS vb n).there)), (13, .int .i64 1), (14, .pointer (some ⟨bk672, 0, none⟩)), (15, .pointer (some ⟨bk677, 0, none⟩)), (16, .bool ((thrS vb n).there)), (17, .int .i64 0), (18, .int .i64 (tail vb)), (59, .int .i64 1), (60, .bool true), (61, .int .i64 0), (62, .int .i64 1), (63, .tuple #[.agg #[.int .i64 ((ThrS vb n).inn.lo), .int .i64 ((ThrS vb n).inn.hi)], .agg #[.int .i64 ((ThrS vb n).out.lo), .int .i64 ((ThrS vb n).out.hi)], .bool ((ThrS vb n).there), .int .i64 (ThrE vb n)]), (64, .int .i64 1), (65, .pointer (some ⟨bk2, 5, none⟩)), (66, .agg #[.int .i64 vb.st.lo, .int .i64 vb.st.hi, .slice ao2 ((vb.runs).length) cap2, .int .i64 vb.len, .int .i64 vb.wid]), (68, .agg #[.int .i64 n.frm, .int .i64 n.to, .int .i64 n.wid, .bool n.single]), (69, .tuple #[.agg #[.int .i64 ((ThrS vb n).inn.lo), .int .i64 ((ThrS vb n).inn.hi)], .agg #[.int .i64 ((ThrS vb n).out.lo), .int .i64 ((ThrS vb n).out.hi)], .bool ((ThrS vb n).there), .int .i64 (ThrE vb n)]), (70, .agg #[.int .i64 ((ThrS vb n).inn.lo), .int .i64 ((ThrS vb n).inn.hi)]), (71, .agg #[.int .i64 ((ThrS vb n).out.lo), .int .i64 ((ThrS vb n).out.hi)]), (72, .bool ((ThrS vb n).there)), (73, .int .i64 (ThrE vb n)), (74, .int .i64 0), (75, .bool false), (80, .bool ((thrS vb n).there)), (81, .bool (!((thrS vb n).there))), (90, .int .i64 1), (91, .pointer (some ⟨bk2, 5, none⟩)), (92, .pointer (some ⟨bk2, 8, none⟩)), (93, .int .i64 vb.len), (94, .int .i64 (vb.len + 99)), (95, .int .i64 (tail vb))] ⟨rfl, rfl, rfl, rfl, rfl, rfl, rfl, rfl, rfl, rfl, rfl, rfl, rfl, rfl, rfl, rfl, rfl, rfl, rfl, rfl, rfl, rfl, rfl, rfl, rfl, rfl, rfl, rfl, rfl, rfl, rfl, rfl, rfl, rfl, rfl, rfl, rfl, rfl, trivial⟩ (c_drawn follows 8 [some (96, some (.pointer (some ⟨bk7, 0, none⟩))), some (97, some (.int .i64 n.frm)), some (98, some (.pointer (some ⟨bk7, 1, none⟩))), some (99, some (.int .i64 n.to)), some (100, some (.int .i64 (tail vb))), some (101, some (.int .i64 (n.to + (tail vb)))), some (19, some (.int .i64 n.frm)), some (20, some (.int .i64 (n.to + (tail vb))))] [[],[0],[],[2],[],[3,4],[1,0,1],[5,6,0,1,2,3,4,5,6]] (fun _ _ w => Upd (fun _ => False) w804 w) rfl rfl rfl (by kernel_rfl) (by kernel_rfl) (Upd.drew _).to ⟨?_, ?_, ?_, ?_, ?_, ?_, ?_, ?_, trivial⟩ ?_)
        · exact fun D ρ w _ _ _ hW => ⟨[(4, .pointer (some ⟨bk7, 0, none⟩))], ⟨fo rfl rfl, trivial⟩, fun Lr => t_field Try.underlying72 rfl Try.sizeOf3 (0) rfl rfl rfl rfl (dz rfl hW)⟩
        ·
         intro D ρ w826 hcD hnD hdD hW
         have zhW := hW.size
         refine ⟨[(96, .pointer (some ⟨bk7, 0, none⟩))], ⟨fi 0 rfl rfl rfl, trivial⟩, fun Lr => ?_⟩
         show WL _ _ _ _ _ _ _ ((96, .pointer (some ⟨bk7, 0, none⟩)) :: Lr) _
         have B829 := (B825.keep hW (fun h => h))
         refine t_load Try.isAgg3 rfl rfl rfl (B829.get rfl) ?_
         exact dz rfl hW
        · exact fun D ρ w _ _ _ hW => ⟨[(4, .pointer (some ⟨bk7, 0, none⟩))], ⟨fo rfl rfl, trivial⟩, fun Lr => t_field Try.underlying72 rfl Try.sizeOf3 (1) rfl rfl rfl rfl (dz rfl hW)⟩
        ·
         intro D ρ w830 hcD hnD hdD hW
         have zhW := hW.size
         refine ⟨[(98, .pointer (some ⟨bk7, 1, none⟩))], ⟨fi 2 rfl rfl rfl, trivial⟩, fun Lr => ?_⟩
         show WL _ _ _ _ _ _ _ ((98, .pointer (some ⟨bk7, 1, none⟩)) :: Lr) _
         have B833 := (B825.keep hW (fun h => h))
         refine t_load Try.isAgg3 rfl rfl rfl (B833.get rfl) ?_
         exact dz rfl hW
        · exact fun D ρ w _ _ _ hW => ⟨[(18, .int .i64 (tail vb))], ⟨fo rfl rfl, trivial⟩, fun Lr => t_move rfl rfl rfl (dz rfl hW)⟩
        ·
         intro D ρ w834 hcD hnD hdD hW
         have zhW := hW.size
         refine ⟨[(99, .int .i64 n.to), (100, .int .i64 (tail vb))], ⟨fi 3 rfl rfl rfl, fi 4 rfl rfl rfl, trivial⟩, fun Lr => ?_⟩
         show WL _ _ _ _ _ _ _ ((99, .int .i64 n.to) :: (100, .int .i64 (tail vb)) :: Lr) _
         refine t_ari rfl rfl rfl rfl rfl (by omega) ?_
         exact dz rfl hW
        · exact fun D ρ w _ _ _ hW => ⟨[(97, .int .i64 n.frm)], ⟨fi 1 rfl rfl rfl, trivial⟩, fun Lr => t_assign rfl rfl rfl (dz rfl hW)⟩
        · exact fun D ρ w _ _ _ hW => ⟨[(101, .int .i64 (n.to + (tail vb)))], ⟨fi 5 rfl rfl rfl, trivial⟩, fun Lr => t_assign rfl rfl rfl (dz rfl hW)⟩
        intro ρ w837 hW
        have u838 : Upd (fun _ => False) w804 w837 := hW
        have zu838 := u838.size
        have E839 := E806.next u838 (fun _ _ h => h.elim)
        refine QK.weak [(3, .pointer (some ⟨bk2, 0, none⟩)), (4, .pointer (some ⟨bk7, 0, none⟩)), (5, .pointer (some ⟨bk12, 0, none⟩)), (7, .bool (MeetOk va vb n && mayB (thrS va n) (thrS vb n))), (8, .bool (MeetOk va vb n && mustB (thrS va n) (thrS vb n))), (10, .pointer (some ⟨bk148, 0, none⟩)), (11, .pointer (some ⟨bk153, 0, none⟩)), (12, .bool ((thrS va n).there && (thrS vb n).there)), (13, .int .i64 1), (14, .pointer (some ⟨bk672, 0, none⟩)), (15, .pointer (some ⟨bk677, 0, none⟩)), (16, .bool ((thrS vb n).there)), (17, .int .i64 0), (18, .int .i64 (tail vb)), (19, .int .i64 n.frm), (20, .int .i64 (n.to + (tail vb))), (59, .int .i64 1), (60, .bool true), (61, .int .i64 0), (62, .int .i64 1), (63, .tuple #[.agg #[.int .i64 ((ThrS vb n).inn.lo), .int .i64 ((ThrS vb n).inn.hi)], .agg #[.int .i64 ((ThrS vb n).out.lo), .int .i64 ((ThrS vb n).out.hi)], .bool ((ThrS vb n).there), .int .i64 (ThrE vb n)]), (64, .int .i64 1), (65, .pointer (some ⟨bk2, 5, none⟩)), (66, .agg #[.int .i64 vb.st.lo, .int .i64 vb.st.hi, .slice ao2 ((vb.runs).length) cap2, .int .i64 vb.len, .int .i64 vb.wid]), (68, .agg #[.int .i64 n.frm, .int .i64 n.to, .int .i64 n.wid, .bool n.single]), (69, .tuple #[.agg #[.int .i64 ((ThrS vb n).inn.lo), .int .i64 ((ThrS vb n).inn.hi)], .agg #[.int .i64 ((ThrS vb n).out.lo), .int .i64 ((ThrS vb n).out.hi)], .bool ((ThrS vb n).there), .int .i64 (ThrE vb n)]), (70, .agg #[.int .i64 ((ThrS vb n).inn.lo), .int .i64 ((ThrS vb n).inn.hi)]), (71, .agg #[.int .i64 ((ThrS vb n).out.lo), .int .i64 ((ThrS vb n).out.hi)]), (72, .bool ((ThrS vb n).there)), (73, .int .i64 (ThrE vb n)), (74, .int .i64 0), (75, .bool false), (80, .bool ((thrS vb n).there)), (81, .bool (!((thrS vb n).there))), (90, .int .i64 1), (91, .pointer (some ⟨bk2, 5, none⟩)), (92, .pointer (some ⟨bk2, 8, none⟩)), (93, .int .i64 vb.len), (94, .int .i64 (vb.len + 99)), (95, .int .i64 (tail vb)), (96, .pointer (some ⟨bk7, 0, none⟩)), (97, .int .i64 n.frm), (98, .pointer (some ⟨bk7, 1, none⟩)), (99, .int .i64 n.to), (100, .int .i64 (tail vb)), (101, .int .i64 (n.to + (tail vb)))] ⟨rfl, rfl, rfl, rfl, rfl, rfl, rfl, rfl, rfl, rfl, rfl, rfl, rfl, rfl, rfl, rfl, rfl, rfl, rfl, rfl, rfl, rfl, rfl, rfl, rfl, rfl, rfl, rfl, rfl, rfl, rfl, rfl, rfl, rfl, rfl, rfl, rfl, rfl, rfl, rfl, rfl, rfl, rfl, rfl, rfl, rfl, trivial⟩ (hK824 _ _ (c_cut (γ := Unit) (fun _x => [(3, .pointer (some ⟨bk2, 0, none⟩)), (4, .pointer (some ⟨bk7, 0, none⟩)), (5, .pointer (some ⟨bk12, 0, none⟩)), (7, .bool (MeetOk va vb n && mayB (thrS va n) (thrS vb n))), (8, .bool (MeetOk va vb n && mustB (thrS va n) (thrS vb n))), (10, .pointer (some ⟨bk148, 0, none⟩)), (11, .pointer (some ⟨bk153, 0, none⟩)), (12, .bool ((thrS va n).there && (thrS vb n).there)), (13, .int .i64 1), (14, .pointer (some ⟨bk672, 0, none⟩)), (15, .pointer (some ⟨bk677, 0, none⟩)), (16, .bool ((thrS vb n).there)), (17, .int .i64 0), (18, .int .i64 (tail vb)), (19, .int .i64 (entP vb n)), (20, .int .i64 (leaP vb n)), (59, .int .i64 1), (60, .bool true), (61, .int .i64 0), (62, .int .i64 1), (63, .tuple #[.agg #[.int .i64 ((ThrS vb n).inn.lo), .int .i64 ((ThrS vb n).inn.hi)], .agg #[.int .i64 ((ThrS vb n).out.lo), .int .i64 ((ThrS vb n).out.hi)], .bool ((ThrS vb n).there), .int .i64 (ThrE vb n)]), (64, .int .i64 1), (65, .pointer (some ⟨bk2, 5, none⟩)), (66, .agg #[.int .i64 vb.st.lo, .int .i64 vb.st.hi, .slice ao2 ((vb.runs).length) cap2, .int .i64 vb.len, .int .i64 vb.wid]), (68, .agg #[.int .i64 n.frm, .int .i64 n.to, .int .i64 n.wid, .bool n.single]), (69, .tuple #[.agg #[.int .i64 ((ThrS vb n).inn.lo), .int .i64 ((ThrS vb n).inn.hi)], .agg #[.int .i64 ((ThrS vb n).out.lo), .int .i64 ((ThrS vb n).out.hi)], .bool ((ThrS vb n).there), .int .i64 (ThrE vb n)]), (70, .agg #[.int .i64 ((ThrS vb n).inn.lo), .int .i64 ((ThrS vb n).inn.hi)]), (71, .agg #[.int .i64 ((ThrS vb n).out.lo), .int .i64 ((ThrS vb n).out.hi)]), (72, .bool ((ThrS vb n).there)), (73, .int .i64 (ThrE vb n)), (74, .int .i64 0), (75, .bool false), (80, .bool ((thrS vb n).there)), (81, .bool (!((thrS vb n).there))), (90, .int .i64 1), (91, .pointer (some ⟨bk2, 5, none⟩)), (92, .pointer (some ⟨bk2, 8, none⟩)), (93, .int .i64 vb.len), (94, .int .i64 (vb.len + 99)), (95, .int .i64 (tail vb)), (96, .pointer (some ⟨bk7, 0, none⟩)), (97, .int .i64 n.frm), (98, .pointer (some ⟨bk7, 1, none⟩)), (99, .int .i64 n.to), (100, .int .i64 (tail vb)), (101, .int .i64 (n.to + (tail vb)))]) (fun _x w => Upd (fun _ => False) w837 w) (fun K841 hK841 => ?_) ?_))
        ·
         refine c_seq fun K844 hK844 => ?_
         have B845 := (B823.keep u838 (fun h => h))
         refine WC.weak [(3, .pointer (some ⟨bk2, 0, none⟩)), (4, .pointer (some ⟨bk7, 0, none⟩)), (5, .pointer (some ⟨bk12, 0, none⟩)), (7, .bool (MeetOk va vb n && mayB (thrS va n) (thrS vb n))), (8, .bool (MeetOk va vb n && mustB (thrS va n) (thrS vb n))), (10, .pointer (some ⟨bk148, 0, none⟩)), (11, .pointer (some ⟨bk153, 0, none⟩)), (12, .bool ((thrS va n).there && (thrS vb n).there)), (13, .int .i64 1), (14, .pointer (some ⟨bk672, 0, none⟩)), (15, .pointer (some ⟨bk677, 0, none⟩)), (16, .bool ((thrS vb n).there)), (17, .int .i64 0), (18, .int .i64 (tail vb)), (19, .int .i64 n.frm), (20, .int .i64 (n.to + (tail vb))), (59, .int .i64 1), (60, .bool true), (61, .int .i64 0), (62, .int .i64 1), (63, .tuple #[.agg #[.int .i64 ((ThrS vb n).inn.lo), .int .i64 ((ThrS vb n).inn.hi)], .agg #[.int .i64 ((ThrS vb n).out.lo), .int .i64 ((ThrS vb n).out.hi)], .bool ((ThrS vb n).there), .int .i64 (ThrE vb n)]), (64, .int .i64 1), (65, .pointer (some ⟨bk2, 5, none⟩)), (66, .agg #[.int .i64 vb.st.lo, .int .i64 vb.st.hi, .slice ao2 ((vb.runs).length) cap2, .int .i64 vb.len, .int .i64 vb.wid]), (68, .agg #[.int .i64 n.frm, .int .i64 n.to, .int .i64 n.wid, .bool n.single]), (69, .tuple #[.agg #[.int .i64 ((ThrS vb n).inn.lo), .int .i64 ((ThrS vb n).inn.hi)], .agg #[.int .i64 ((ThrS vb n).out.lo), .int .i64 ((ThrS vb n).out.hi)], .bool ((ThrS vb n).there), .int .i64 (ThrE vb n)]), (70, .agg #[.int .i64 ((ThrS vb n).inn.lo), .int .i64 ((ThrS vb n).inn.hi)]), (71, .agg #[.int .i64 ((ThrS vb n).out.lo), .int .i64 ((ThrS vb n).out.hi)]), (72, .bool ((ThrS vb n).there)), (73, .int .i64 (ThrE vb n)), (74, .int .i64 0), (75, .bool false), (80, .bool ((thrS vb n).there)), (81, .bool (!((thrS vb n).there))), (90, .int .i64 1), (91, .pointer (some ⟨bk2, 5, none⟩)), (92, .pointer (some ⟨bk2, 8, none⟩)), (93, .int .i64 vb.len), (94, .int .i64 (vb.len + 99)), (95, .int .i64 (tail vb)), (96, .pointer (some ⟨bk7, 0, none⟩)), (97, .int .i64 n.frm), (98, .pointer (some ⟨bk7, 1, none⟩)), (99, .int .i64 n.to), (100, .int .i64 (tail vb)), (101, .int .i64 (n.to + (tail vb)))] ⟨rfl, rfl, rfl, rfl, rfl, rfl, rfl, rfl, rfl, rfl, rfl, rfl, rfl, rfl, rfl, rfl, rfl, rfl, rfl, rfl, rfl, rfl, rfl, rfl, rfl, rfl, rfl, rfl, rfl, rfl, rfl, rfl, rfl, rfl, rfl, rfl, rfl, rfl, rfl, rfl, rfl, rfl, rfl, rfl, rfl, rfl, trivial⟩ (c_drawn follows 15 [some (102, some (.int .i64 1)), some (103, some (.pointer (some ⟨bk2, 5, none⟩))), some (104, some (.pointer (some ⟨bk2, 7, none⟩))), some (105, some (.slice ao2 ((vb.runs).length) cap2)), some (106, some (.pointer (some ⟨b2, o2 + 0 * 6, none⟩))), some (107, some (.pointer (some ⟨b2, o2 + 0 * 6 + 1, none⟩))), some (108, some (.int .i64 ((nth vb.runs 0).to))), some (109, some (.int .i64 1)), some (110, some (.pointer (some ⟨bk2, 5, none⟩))), some (111, some (.pointer (some ⟨bk2, 7, none⟩))), some (112, some (.slice ao2 ((vb.runs).length) cap2)), some (113, some (.pointer (some ⟨b2, o2 + 0 * 6, none⟩))), some (114, some (.pointer (some ⟨b2, o2 + 0 * 6 + 0, none⟩))), some (115, some (.int .i64 ((nth vb.runs 0).frm))), some (116, some (.bool (decide ((nth vb.runs 0).to < (nth vb.runs 0).frm))))] [[],[0],[1],[2],[3],[4],[5],[],[7],[8],[9],[10],[11],[12],[6,13]] (fun _ _ w => Upd (fun _ => False) w837 w) rfl rfl rfl (by kernel_rfl) (by kernel_rfl) (Upd.drew _).to ⟨?_, ?_, ?_, ?_, ?_, ?_, ?_, ?_, ?_, ?_, ?_, ?_, ?_, ?_, ?_, trivial⟩ ?_)
         · exact fun D ρ w _ _ _ hW => ⟨[(13, .int .i64 1)], ⟨fo rfl rfl, trivial⟩, fun Lr => t_move rfl rfl rfl (dz rfl hW)⟩
         ·
          intro D ρ w848 hcD hnD hdD hW
          have zhW := hW.size
          refine ⟨[(3, .pointer (some ⟨bk2, 0, none⟩)), (102, .int .i64 1)], ⟨fo rfl rfl, fi 0 rfl rfl rfl, trivial⟩, fun Lr => ?_⟩
          show WL _ _ _ _ _ _ _ ((3, .pointer (some ⟨bk2, 0, none⟩)) :: (102, .int .i64 1) :: Lr) _
          refine t_indexArr (j := 1) (5) Try.underlying94 Try.sizeOf48 rfl rfl rfl rfl rfl (by decide) rfl ?_
          exact dz rfl hW
         · exact fun D ρ w _ _ _ hW => ⟨[(103, .pointer (some ⟨bk2, 5, none⟩))], ⟨fi 1 rfl rfl rfl, trivial⟩, fun Lr => t_field Try.underlying48 rfl Try.sizeOf46 (7) rfl rfl rfl rfl (dz rfl hW)⟩
         ·
          intro D ρ w851 hcD hnD hdD hW
          have zhW := hW.size
          refine ⟨[(104, .pointer (some ⟨bk2, 7, none⟩))], ⟨fi 2 rfl rfl rfl, trivial⟩, fun Lr => ?_⟩
          show WL _ _ _ _ _ _ _ ((104, .pointer (some ⟨bk2, 7, none⟩)) :: Lr) _
          have B854 := (B845.keep hW (fun h => h))
          refine t_load Try.isAgg46 rfl rfl rfl (B854.get rfl) ?_
          exact dz rfl hW
         ·
          intro D ρ w855 hcD hnD hdD hW
          have zhW := hW.size
          have E857 := E839.next hW (fun _ _ h => h.elim)
          refine ⟨[(105, .slice ao2 ((vb.runs).length) cap2)], ⟨fi 3 rfl rfl rfl, trivial⟩, fun Lr => ?_⟩
          show WL _ _ _ _ _ _ _ ((105, .slice ao2 ((vb.runs).length) cap2) :: Lr) _
          have i858 : 0 < vb.runs.length := (by omega)
          refine t_index (j := 0) Try.underlying46 Try.sizeOf59 rfl rfl rfl rfl ((hs2.keep E857 (fun _ h => h)).addr (by omega)) rfl i858 ?_
          exact dz rfl hW
         · exact fun D ρ w _ _ _ hW => ⟨[(106, .pointer (some ⟨b2, o2 + 0 * 6, none⟩))], ⟨fi 4 rfl rfl rfl, trivial⟩, fun Lr => t_field Try.underlying59 rfl Try.sizeOf3 (o2 + 0 * 6 + 1) rfl rfl rfl rfl (dz rfl hW)⟩
         ·
          intro D ρ w859 hcD hnD hdD hW
          have zhW := hW.size
          have E861 := E839.next hW (fun _ _ h => h.elim)
          refine ⟨[(107, .pointer (some ⟨b2, o2 + 0 * 6 + 1, none⟩))], ⟨fi 5 rfl rfl rfl, trivial⟩, fun Lr => ?_⟩
          show WL _ _ _ _ _ _ _ ((107, .pointer (some ⟨b2, o2 + 0 * 6 + 1, none⟩)) :: Lr) _
          refine t_load Try.isAgg3 rfl rfl rfl (((hs2.keep E861 (fun _ h => h)).at_ 0 (by omega)) 1 _ rfl) ?_
          exact dz rfl hW
         · exact fun D ρ w _ _ _ hW => ⟨[(13, .int .i64 1)], ⟨fo rfl rfl, trivial⟩, fun Lr => t_move rfl rfl rfl (dz rfl hW)⟩
         ·
          intro D ρ w862 hcD hnD hdD hW
          have zhW := hW.size
          refine ⟨[(3, .pointer (some ⟨bk2, 0, none⟩)), (109, .int .i64 1)], ⟨fo rfl rfl, fi 7 rfl rfl rfl, trivial⟩, fun Lr => ?_⟩
          show WL _ _ _ _ _ _ _ ((3, .pointer (some ⟨bk2, 0, none⟩)) :: (109, .int .i64 1) :: Lr) _
          refine t_indexArr (j := 1) (5) Try.underlying94 Try.sizeOf48 rfl rfl rfl rfl rfl (by decide) rfl ?_
          exact dz rfl hW
         · exact fun D ρ w _ _ _ hW => ⟨[(110, .pointer (some ⟨bk2, 5, none⟩))], ⟨fi 8 rfl rfl rfl, trivial⟩, fun Lr => t_field Try.underlying48 rfl Try.sizeOf46 (7) rfl rfl rfl rfl (dz rfl hW)⟩
         ·
          intro D ρ w865 hcD hnD hdD hW
          have zhW := hW.size
          refine ⟨[(111, .pointer (some ⟨bk2, 7, none⟩))], ⟨fi 9 rfl rfl rfl, trivial⟩, fun Lr => ?_⟩
          show WL _ _ _ _ _ _ _ ((111, .pointer (some ⟨bk2, 7, none⟩)) :: Lr) _
          have B868 := (B845.keep hW (fun h => h))
          refine t_load Try.isAgg46 rfl rfl rfl (B868.get rfl) ?_
          exact dz rfl hW
         ·
          intro D ρ w869 hcD hnD hdD hW
          have zhW := hW.size
          have E871 := E839.next hW (fun _ _ h => h.elim)
          refine ⟨[(112, .slice ao2 ((vb.runs).length) cap2)], ⟨fi 10 rfl rfl rfl, trivial⟩, fun Lr => ?_⟩
          show WL _ _ _ _ _ _ _ ((112, .slice ao2 ((vb.runs).length) cap2) :: Lr) _
          have i872 : 0 < vb.runs.length := (by omega)
          refine t_index (j := 0) Try.underlying46 Try.sizeOf59 rfl rfl rfl rfl ((hs2.keep E871 (fun _ h => h)).addr (by omega)) rfl i872 ?_
          exact dz rfl hW
         · exact fun D ρ w _ _ _ hW => ⟨[(113, .pointer (some ⟨b2, o2 + 0 * 6, none⟩))], ⟨fi 11 rfl rfl rfl, trivial⟩, fun Lr => t_field Try.underlying59 rfl Try.sizeOf3 (o2 + 0 * 6 + 0) rfl rfl rfl rfl (dz rfl hW)⟩
         ·
          intro D ρ w873 hcD hnD hdD hW
          have zhW := hW.size
          have E875 := E839.next hW (fun _ _ h => h.elim)
          refine ⟨[(114, .pointer (some ⟨b2, o2 + 0 * 6 + 0, none⟩))], ⟨fi 12 rfl rfl rfl, trivial⟩, fun Lr => ?_⟩
          show WL _ _ _ _ _ _ _ ((114, .pointer (some ⟨b2, o2 + 0 * 6 + 0, none⟩)) :: Lr) _
          refine t_load Try.isAgg3 rfl rfl rfl (((hs2.keep E875 (fun _ h => h)).at_ 0 (by omega)) 0 _ rfl) ?_
          exact dz rfl hW
         · exact fun D ρ w _ _ _ hW => ⟨[(108, .int .i64 ((nth vb.runs 0).to)), (115, .int .i64 ((nth vb.runs 0).frm))], ⟨fi 6 rfl rfl rfl, fi 13 rfl rfl rfl, trivial⟩, fun Lr => t_cmp rfl rfl rfl rfl rfl (dz rfl hW)⟩
         intro ρ w876 hW
         have u877 : Upd (fun _ => False) w837 w876 := hW
         have zu877 := u877.size
         refine QK.weak [(3, .pointer (some ⟨bk2, 0, none⟩)), (4, .pointer (some ⟨bk7, 0, none⟩)), (5, .pointer (some ⟨bk12, 0, none⟩)), (7, .bool (MeetOk va vb n && mayB (thrS va n) (thrS vb n))), (8, .bool (MeetOk va vb n && mustB (thrS va n) (thrS vb n))), (10, .pointer (some ⟨bk148, 0, none⟩)), (11, .pointer (some ⟨bk153, 0, none⟩)), (12, .bool ((thrS va n).there && (thrS vb n).there)), (13, .int .i64 1), (14, .pointer (some ⟨bk672, 0, none⟩)), (15, .pointer (some ⟨bk677, 0, none⟩)), (16, .bool ((thrS vb n).there)), (17, .int .i64 0), (18, .int .i64 (tail vb)), (19, .int .i64 n.frm), (20, .int .i64 (n.to + (tail vb))), (59, .int .i64 1), (60, .bool true), (61, .int .i64 0), (62, .int .i64 1), (63, .tuple #[.agg #[.int .i64 ((ThrS vb n).inn.lo), .int .i64 ((ThrS vb n).inn.hi)], .agg #[.int .i64 ((ThrS vb n).out.lo), .int .i64 ((ThrS vb n).out.hi)], .bool ((ThrS vb n).there), .int .i64 (ThrE vb n)]), (64, .int .i64 1), (65, .pointer (some ⟨bk2, 5, none⟩)), (66, .agg #[.int .i64 vb.st.lo, .int .i64 vb.st.hi, .slice ao2 ((vb.runs).length) cap2, .int .i64 vb.len, .int .i64 vb.wid]), (68, .agg #[.int .i64 n.frm, .int .i64 n.to, .int .i64 n.wid, .bool n.single]), (69, .tuple #[.agg #[.int .i64 ((ThrS vb n).inn.lo), .int .i64 ((ThrS vb n).inn.hi)], .agg #[.int .i64 ((ThrS vb n).out.lo), .int .i64 ((ThrS vb n).out.hi)], .bool ((ThrS vb n).there), .int .i64 (ThrE vb n)]), (70, .agg #[.int .i64 ((ThrS vb n).inn.lo), .int .i64 ((ThrS vb n).inn.hi)]), (71, .agg #[.int .i64 ((ThrS vb n).out.lo), .int .i64 ((ThrS vb n).out.hi)]), (72, .bool ((ThrS vb n).there)), (73, .int .i64 (ThrE vb n)), (74, .int .i64 0), (75, .bool false), (80, .bool ((thrS vb n).there)), (81, .bool (!((thrS vb n).there))), (90, .int .i64 1), (91, .pointer (some ⟨bk2, 5, none⟩)), (92, .pointer (some ⟨bk2, 8, none⟩)), (93, .int .i64 vb.len), (94, .int .i64 (vb.len + 99)), (95, .int .i64 (tail vb)), (96, .pointer (some ⟨bk7, 0, none⟩)), (97, .int .i64 n.frm), (98, .pointer (some ⟨bk7, 1, none⟩)), (99, .int .i64 n.to), (100, .int .i64 (tail vb)), (101, .int .i64 (n.to + (tail vb))), (102, .int .i64 1), (103, .pointer (some ⟨bk2, 5, none⟩)), (104, .pointer (some ⟨bk2, 7, none⟩)), (105, .slice ao2 ((vb.runs).length) cap2), (106, .pointer (some ⟨b2, o2 + 0 * 6, none⟩)), (107, .pointer (some ⟨b2, o2 + 0 * 6 + 1, none⟩)), (108, .int .i64 ((nth vb.runs 0).to)), (109, .int .i64 1), (110, .pointer (some ⟨bk2, 5, none⟩)), (111, .pointer (some ⟨bk2, 7, none⟩)), (112, .slice ao2 ((vb.runs).length) cap2), (113, .pointer (some ⟨b2, o2 + 0 * 6, none⟩)), (114, .pointer (some ⟨b2, o2 + 0 * 6 + 0, none⟩)), (115, .int .i64 ((nth vb.runs 0).frm)), (116, .bool (decide ((nth vb.runs 0).to < (nth vb.runs 0).frm)))] ⟨rfl, rfl, rfl, rfl, rfl, rfl, rfl, rfl, rfl, rfl, rfl, rfl, rfl, rfl, rfl, rfl, rfl, rfl, rfl, rfl, rfl, rfl, rfl, rfl, rfl, rfl, rfl, rfl, rfl, rfl, rfl, rfl, rfl, rfl, rfl, rfl, rfl, rfl, rfl, rfl, rfl, rfl, rfl, rfl, rfl, rfl, rfl, rfl, rfl, rfl, rfl, rfl, rfl, rfl, rfl, rfl, rfl, rfl, rfl, rfl, rfl, trivial⟩ (hK844 _ _ (c_condp rfl (fun g116 => ?_) (fun g116 => ?_)))
         ·
          have B879 := ((B825.keep u838 (fun h => h)).keep u877 (fun h => h))
          refine WC.weak [(3, .pointer (some ⟨bk2, 0, none⟩)), (4, .pointer (some ⟨bk7, 0, none⟩)), (5, .pointer (some ⟨bk12, 0, none⟩)), (7, .bool (MeetOk va vb n && mayB (thrS va n) (thrS vb n))), (8, .bool (MeetOk va vb n && mustB (thrS va n) (thrS vb n))), (10, .pointer (some ⟨bk148, 0, none⟩)), (11, .pointer (some ⟨bk153, 0, none⟩)), (12, .bool ((thrS va n).there && (thrS vb n).there)), (13, .int .i64 1), (14, .pointer (some ⟨bk672, 0, none⟩)), (15, .pointer (some ⟨bk677, 0, none⟩)), (16, .bool ((thrS vb n).there)), (17, .int .i64 0), (18, .int .i64 (tail vb)), (19, .int .i64 n.frm), (20, .int .i64 (n.to + (tail vb))), (59, .int .i64 1), (60, .bool true), (61, .int .i64 0), (62, .int .i64 1), (63, .tuple #[.agg #[.int .i64 ((ThrS vb n).inn.lo), .int .i64 ((ThrS vb n).inn.hi)], .agg #[.int .i64 ((ThrS vb n).out.lo), .int .i64 ((ThrS vb n).out.hi)], .bool ((ThrS vb n).there), .int .i64 (ThrE vb n)]), (64, .int .i64 1), (65, .pointer (some ⟨bk2, 5, none⟩)), (66, .agg #[.int .i64 vb.st.lo, .int .i64 vb.st.hi, .slice ao2 ((vb.runs).length) cap2, .int .i64 vb.len, .int .i64 vb.wid]), (68, .agg #[.int .i64 n.frm, .int .i64 n.to, .int .i64 n.wid, .bool n.single]), (69, .tuple #[.agg #[.int .i64 ((ThrS vb n).inn.lo), .int .i64 ((ThrS vb n).inn.hi)], .agg #[.int .i64 ((ThrS vb n).out.lo), .int .i64 ((ThrS vb n).out.hi)], .bool ((ThrS vb n).there), .int .i64 (ThrE vb n)]), (70, .agg #[.int .i64 ((ThrS vb n).inn.lo), .int .i64 ((ThrS vb n).inn.hi)]), (71, .agg #[.int .i64 ((ThrS vb n).out.lo), .int .i64 ((ThrS vb n).out.hi)]), (72, .bool ((ThrS vb n).there)), (73, .int .i64 (ThrE vb n)), (74, .int .i64 0), (75, .bool false), (80, .bool ((thrS vb n).there)), (81, .bool (!((thrS vb n).there))), (90, .int .i64 1), (91, .pointer (some ⟨bk2, 5, none⟩)), (92, .pointer (some ⟨bk2, 8, none⟩)), (93, .int .i64 vb.len), (94, .int .i64 (vb.len + 99)), (95, .int .i64 (tail vb)), (96, .pointer (some ⟨bk7, 0, none⟩)), (97, .int .i64 n.frm), (98, .pointer (some ⟨bk7, 1, none⟩)), (99, .int .i64 n.to), (100, .int .i64 (tail vb)), (101, .int .i64 (n.to + (tail vb))), (102, .int .i64 1), (103, .pointer (some ⟨bk2, 5, none⟩)), (104, .pointer (some ⟨bk2, 7, none⟩)), (105, .slice ao2 ((vb.runs).length) cap2), (106, .pointer (some ⟨b2, o2 + 0 * 6, none⟩)), (107, .pointer (some ⟨b2, o2 + 0 * 6 + 1, none⟩)), (108, .int .i64 ((nth vb.runs 0).to)), (109, .int .i64 1), (110, .pointer (some ⟨bk2, 5, none⟩)), (111, .pointer (some ⟨bk2, 7, none⟩)), (112, .slice ao2 ((vb.runs).length) cap2), (113, .pointer (some ⟨b2, o2 + 0 * 6, none⟩)), (114, .pointer (some ⟨b2, o2 + 0 * 6 + 0, none⟩)), (115, .int .i64 ((nth vb.runs 0).frm)), (116, .bool (decide ((nth vb.runs 0).to < (nth vb.runs 0).frm)))] ⟨rfl, rfl, rfl, rfl, rfl, rfl, rfl, rfl, rfl, rfl, rfl, rfl, rfl, rfl, rfl, rfl, rfl, rfl, rfl, rfl, rfl, rfl, rfl, rfl, rfl, rfl, rfl, rfl, rfl, rfl, rfl, rfl, rfl, rfl, rfl, rfl, rfl, rfl, rfl, rfl, rfl, rfl, rfl, rfl, rfl, rfl, rfl, rfl, rfl, rfl, rfl, rfl, rfl, rfl, rfl, rfl, rfl, rfl, rfl, rfl, rfl, trivial⟩ (c_drawn follows 8 [some (117, some (.pointer (some ⟨bk7, 1, none⟩))), some (118, some (.int .i64 n.to)), some (119, some (.pointer (some ⟨bk7, 0, none⟩))), some (120, some (.int .i64 n.frm)), some (121, some (.int .i64 (tail vb))), some (122, some (.int .i64 (n.frm - (tail vb)))), some (19, some (.int .i64 n.to)), some (20, some (.int .i64 (n.frm - (tail vb))))] [[],[0],[],[2],[],[3,4],[1,0,1],[5,6,0,1,2,3,4,5,6]] (fun _ _ w => Upd (fun _ => False) w876 w) rfl rfl rfl (by kernel_rfl) (by kernel_rfl) (Upd.drew _).to ⟨?_, ?_, ?_, ?_, ?_, ?_, ?_, ?_, trivial⟩ ?_)
          · exact fun D ρ w _ _ _ hW => ⟨[(4, .pointer (some ⟨bk7, 0, none⟩))], ⟨fo rfl rfl, trivial⟩, fun Lr => t_field Try.underlying72 rfl Try.sizeOf3 (1) rfl rfl rfl rfl (dz rfl hW)⟩
          ·
           intro D ρ w880 hcD hnD hdD hW
           have zhW := hW.size
           refine ⟨[(117, .pointer (some ⟨bk7, 1, none⟩))], ⟨fi 0 rfl rfl rfl, trivial⟩, fun Lr => ?_⟩
           show WL _ _ _ _ _ _ _ ((117, .pointer (some ⟨bk7, 1, none⟩)) :: Lr) _
           have B883 := (B879.keep hW (fun h => h))
           refine t_load Try.isAgg3 rfl rfl rfl (B883.get rfl) ?_
           exact dz rfl hW
          · exact fun D ρ w _ _ _ hW => ⟨[(4, .pointer (some ⟨bk7, 0, none⟩))], ⟨fo rfl rfl, trivial⟩, fun Lr => t_field Try.underlying72 rfl Try.sizeOf3 (0) rfl rfl rfl rfl (dz rfl hW)⟩
          ·
           intro D ρ w884 hcD hnD hdD hW
           have zhW := hW.size
           refine ⟨[(119, .pointer (some ⟨bk7, 0, none⟩))], ⟨fi 2 rfl rfl rfl, trivial⟩, fun Lr => ?_⟩
           show WL _ _ _ _ _ _ _ ((119, .pointer (some ⟨bk7, 0, none⟩)) :: Lr) _
           have B887 := (B879.keep hW (fun h => h))
           refine t_load Try.isAgg3 rfl rfl rfl (B887.get rfl) ?_
           exact dz rfl hW
          · exact fun D ρ w _ _ _ hW => ⟨[(18, .int .i64 (tail vb))], ⟨fo rfl rfl, trivial⟩, fun Lr => t_move rfl rfl rfl (dz rfl hW)⟩
          ·
           intro D ρ w888 hcD hnD hdD hW
           have zhW := hW.size
           refine ⟨[(120, .int .i64 n.frm), (121, .int .i64 (tail vb))], ⟨fi 3 rfl rfl rfl, fi 4 rfl rfl rfl, trivial⟩, fun Lr => ?_⟩
           show WL _ _ _ _ _ _ _ ((120, .int .i64 n.frm) :: (121, .int .i64 (tail vb)) :: Lr) _
           refine t_ari rfl rfl rfl rfl rfl (by omega) ?_
           exact dz rfl hW
          · exact fun D ρ w _ _ _ hW => ⟨[(118, .int .i64 n.to)], ⟨fi 1 rfl rfl rfl, trivial⟩, fun Lr => t_assign rfl rfl rfl (dz rfl hW)⟩
          · exact fun D ρ w _ _ _ hW => ⟨[(122, .int .i64 (n.frm - (tail vb)))], ⟨fi 5 rfl rfl rfl, trivial⟩, fun Lr => t_assign rfl rfl rfl (dz rfl hW)⟩
          intro ρ w891 hW
          have u892 : Upd (fun _ => False) w876 w891 := hW
          have zu892 := u892.size
          refine QK.weak [(3, .pointer (some ⟨bk2, 0, none⟩)), (4, .pointer (some ⟨bk7, 0, none⟩)), (5, .pointer (some ⟨bk12, 0, none⟩)), (7, .bool (MeetOk va vb n && mayB (thrS va n) (thrS vb n))), (8, .bool (MeetOk va vb n && mustB (thrS va n) (thrS vb n))), (10, .pointer (some ⟨bk148, 0, none⟩)), (11, .pointer (some ⟨bk153, 0, none⟩)), (12, .bool ((thrS va n).there && (thrS vb n).there)), (13, .int .i64 1), (14, .pointer (some ⟨bk672, 0, none⟩)), (15, .pointer (some ⟨bk677, 0, none⟩)), (16, .bool ((thrS vb n).there)), (17, .int .i64 0), (18, .int .i64 (tail vb)), (19, .int .i64 n.to), (20, .int .i64 (n.frm - (tail vb))), (59, .int .i64 1), (60, .bool true), (61, .int .i64 0), (62, .int .i64 1), (63, .tuple #[.agg #[.int .i64 ((ThrS vb n).inn.lo), .int .i64 ((ThrS vb n).inn.hi)], .agg #[.int .i64 ((ThrS vb n).out.lo), .int .i64 ((ThrS vb n).out.hi)], .bool ((ThrS vb n).there), .int .i64 (ThrE vb n)]), (64, .int .i64 1), (65, .pointer (some ⟨bk2, 5, none⟩)), (66, .agg #[.int .i64 vb.st.lo, .int .i64 vb.st.hi, .slice ao2 ((vb.runs).length) cap2, .int .i64 vb.len, .int .i64 vb.wid]), (68, .agg #[.int .i64 n.frm, .int .i64 n.to, .int .i64 n.wid, .bool n.single]), (69, .tuple #[.agg #[.int .i64 ((ThrS vb n).inn.lo), .int .i64 ((ThrS vb n).inn.hi)], .agg #[.int .i64 ((ThrS vb n).out.lo), .int .i64 ((ThrS vb n).out.hi)], .bool ((ThrS vb n).there), .int .i64 (ThrE vb n)]), (70, .agg #[.int .i64 ((ThrS vb n).inn.lo), .int .i64 ((ThrS vb n).inn.hi)]), (71, .agg #[.int .i64 ((ThrS vb n).out.lo), .int .i64 ((ThrS vb n).out.hi)]), (72, .bool ((ThrS vb n).there)), (73, .int .i64 (ThrE vb n)), (74, .int .i64 0), (75, .bool false), (80, .bool ((thrS vb n).there)), (81, .bool (!((thrS vb n).there))), (90, .int .i64 1), (91, .pointer (some ⟨bk2, 5, none⟩)), (92, .pointer (some ⟨bk2, 8, none⟩)), (93, .int .i64 vb.len), (94, .int .i64 (vb.len + 99)), (95, .int .i64 (tail vb)), (96, .pointer (some ⟨bk7, 0, none⟩)), (97, .int .i64 n.frm), (98, .pointer (some ⟨bk7, 1, none⟩)), (99, .int .i64 n.to), (100, .int .i64 (tail vb)), (101, .int .i64 (n.to + (tail vb))), (102, .int .i64 1), (103, .pointer (some ⟨bk2, 5, none⟩)), (104, .pointer (some ⟨bk2, 7, none⟩)), (105, .slice ao2 ((vb.runs).length) cap2), (106, .pointer (some ⟨b2, o2 + 0 * 6, none⟩)), (107, .pointer (some ⟨b2, o2 + 0 * 6 + 1, none⟩)), (108, .int .i64 ((nth vb.runs 0).to)), (109, .int .i64 1), (110, .pointer (some ⟨bk2, 5, none⟩)), (111, .pointer (some ⟨bk2, 7, none⟩)), (112, .slice ao2 ((vb.runs).length) cap2), (113, .pointer (some ⟨b2, o2 + 0 * 6, none⟩)), (114, .pointer (some ⟨b2, o2 + 0 * 6 + 0, none⟩)), (115, .int .i64 ((nth vb.runs 0).frm)), (116, .bool (decide ((nth vb.runs 0).to < (nth vb.runs 0).frm))), (117, .pointer (some ⟨bk7, 1, none⟩)), (118, .int .i64 n.to), (119, .pointer (some ⟨bk7, 0, none⟩)), (120, .int .i64 n.frm), (121, .int .i64 (tail vb)), (122, .int .i64 (n.frm - (tail vb)))] ⟨rfl, rfl, rfl, rfl, rfl, rfl, rfl, rfl, rfl, rfl, rfl, rfl, rfl, rfl, rfl, rfl, rfl, rfl, rfl, rfl, rfl, rfl, rfl, rfl, rfl, rfl, rfl, rfl, rfl, rfl, rfl, rfl, rfl, rfl, rfl, rfl, rfl, rfl, rfl, rfl, rfl, rfl, rfl, rfl, rfl, rfl, rfl, rfl, rfl, rfl, rfl, rfl, rfl, rfl, rfl, rfl, rfl, rfl, rfl, rfl, rfl, rfl, rfl, rfl, rfl, rfl, rfl, trivial⟩ ?_
          exact hK841 () _ _ ⟨rfl, rfl, rfl, rfl, rfl, rfl, rfl, rfl, rfl, rfl, rfl, rfl, rfl, rfl, (by exact congrArg some (congrArg (Value.int .i64) (by unfold entP; rw [if_pos ((way_lt hk2).1 g116)]))), (by exact congrArg some (congrArg (Value.int .i64) (by unfold leaP; rw [if_pos ((way_lt hk2).1 g116)]))), rfl, rfl, rfl, rfl, rfl, rfl, rfl, rfl, rfl, rfl, rfl, rfl, rfl, rfl, rfl, rfl, rfl, rfl, rfl, rfl, rfl, rfl, rfl, rfl, rfl, rfl, rfl, rfl, rfl, rfl, trivial⟩ (((Upd.refl _ _).next u877 (fun _ _ h => h.elim)).next u892 (fun _ _ h => h.elim))
         ·
          refine c_skip ?_
          exact hK841 () _ _ ⟨rfl, rfl, rfl, rfl, rfl, rfl, rfl, rfl, rfl, rfl, rfl, rfl, rfl, rfl, (by exact congrArg some (congrArg (Value.int .i64) (by unfold entP; rw [if_neg (fun h => g116 ((way_lt hk2).2 h))]))), (by exact congrArg some (congrArg (Value.int .i64) (by unfold leaP; rw [if_neg (fun h => g116 ((way_lt hk2).2 h))]))), rfl, rfl, rfl, rfl, rfl, rfl, rfl, rfl, rfl, rfl, rfl, rfl, rfl, rfl, rfl, rfl, rfl, rfl, rfl, rfl, rfl, rfl, rfl, rfl, rfl, rfl, rfl, rfl, rfl, rfl, trivial⟩ ((Upd.refl _ _).next u877 (fun _ _ h => h.elim))
        ·
         intro _x w842 u843
         have zu843 := u843.size
         have E894 := E839.next u843 (fun _ _ h => h.elim)
         refine c_seq fun K895 hK895 => ?_
         have B896 := ((B823.keep u838 (fun h => h)).keep u843 (fun h => h))
         have B897 := ((((((((((((B14.keep u22 (fun h => h)).keep u34 (fun h => h)).keep u133 (fun h => h)).keep u151 (fun h => h)).keep u156 (fun h => h)).keep u160 (show ¬ (bk12 = bk148) by first | omega | assumption)).keep u165 (show ¬ (bk12 = bk153) by first | omega | assumption)).keep u176 (show ¬ (bk12 = bk148 ∨ bk12 = bk153) by first | omega | assumption)).keep u786 (fun h => h)).keep u805 (fun h => h)).keep u838 (fun h => h)).keep u843 (fun h => h))
         have B898 := ((((I647.keep u786 (fun h => h)).keep u805 (fun h => h)).keep u838 (fun h => h)).keep u843 (fun h => h))
         have B899 := ((((I648.keep u786 (fun h => h)).keep u805 (fun h => h)).keep u838 (fun h => h)).keep u843 (fun h => h))
         refine WC.weak [(3, .pointer (some ⟨bk2, 0, none⟩)), (4, .pointer (some ⟨bk7, 0, none⟩)), (5, .pointer (some ⟨bk12, 0, none⟩)), (7, .bool (MeetOk va vb n && mayB (thrS va n) (thrS vb n))), (8, .bool (MeetOk va vb n && mustB (thrS va n) (thrS vb n))), (10, .pointer (some ⟨bk148, 0, none⟩)), (11, .pointer (some ⟨bk153, 0, none⟩)), (12, .bool ((thrS va n).there && (thrS vb n).there)), (13, .int .i64 1), (14, .pointer (some ⟨bk672, 0, none⟩)), (15, .pointer (some ⟨bk677, 0, none⟩)), (16, .bool ((thrS vb n).there)), (17, .int .i64 0), (18, .int .i64 (tail vb)), (19, .int .i64 (entP vb n)), (20, .int .i64 (leaP vb n)), (59, .int .i64 1), (60, .bool true), (61, .int .i64 0), (62, .int .i64 1), (63, .tuple #[.agg #[.int .i64 ((ThrS vb n).inn.lo), .int .i64 ((ThrS vb n).inn.hi)], .agg #[.int .i64 ((ThrS vb n).out.lo), .int .i64 ((ThrS vb n).out.hi)], .bool ((ThrS vb n).there), .int .i64 (ThrE vb n)]), (64, .int .i64 1), (65, .pointer (some ⟨bk2, 5, none⟩)), (66, .agg #[.int .i64 vb.st.lo, .int .i64 vb.st.hi, .slice ao2 ((vb.runs).length) cap2, .int .i64 vb.len, .int .i64 vb.wid]), (68, .agg #[.int .i64 n.frm, .int .i64 n.to, .int .i64 n.wid, .bool n.single]), (69, .tuple #[.agg #[.int .i64 ((ThrS vb n).inn.lo), .int .i64 ((ThrS vb n).inn.hi)], .agg #[.int .i64 ((ThrS vb n).out.lo), .int .i64 ((ThrS vb n).out.hi)], .bool ((ThrS vb n).there), .int .i64 (ThrE vb n)]), (70, .agg #[.int .i64 ((ThrS vb n).inn.lo), .int .i64 ((ThrS vb n).inn.hi)]), (71, .agg #[.int .i64 ((ThrS vb n).out.lo), .int .i64 ((ThrS vb n).out.hi)]), (72, .bool ((ThrS vb n).there)), (73, .int .i64 (ThrE vb n)), (74, .int .i64 0), (75, .bool false), (80, .bool ((thrS vb n).there)), (81, .bool (!((thrS vb n).there))), (90, .int .i64 1), (91, .pointer (some ⟨bk2, 5, none⟩)), (92, .pointer (some ⟨bk2, 8, none⟩)), (93, .int .i64 vb.len), (94, .int .i64 (vb.len + 99)), (95, .int .i64 (tail vb)), (96, .pointer (some ⟨bk7, 0, none⟩)), (97, .int .i64 n.frm), (98, .pointer (some ⟨bk7, 1, none⟩)), (99, .int .i64 n.to), (100, .int .i64 (tail vb)), (101, .int .i64 (n.to + (tail vb)))] ⟨rfl, rfl, rfl, rfl, rfl, rfl, rfl, rfl, rfl, rfl, rfl, rfl, rfl, rfl, rfl, rfl, rfl, rfl, rfl, rfl, rfl, rfl, rfl, rfl, rfl, rfl, rfl, rfl, rfl, rfl, rfl, rfl, rfl, rfl, rfl, rfl, rfl, rfl, rfl, rfl, rfl, rfl, rfl, rfl, rfl, rfl, trivial⟩ (c_drawn follows 22 [some (123, some (.int .i64 1)), some (124, some (.int .i64 1)), some (125, some (.int .i64 1)), some (126, some (.pointer (some ⟨bk2, 5, none⟩))), some (127, some (.agg #[.int .i64 vb.st.lo, .int .i64 vb.st.hi, .slice ao2 ((vb.runs).length) cap2, .int .i64 vb.len, .int .i64 vb.wid])), some (128, some (.int .i64 1)), some (129, some (.pointer (some ⟨bk12, 3, none⟩))), some (130, some (.agg #[.int .u8 s1, .slice ap1 tp1.length cp1, .slice aw1 tw1.length cw1])), some (131, some (.int .i64 (entP vb n))), some (132, some (.int .i64 (tru vb s1 tp1 tw1 (entP vb n)))), some (133, some (.int .i64 1)), some (134, some (.pointer (some ⟨bk2, 5, none⟩))), some (135, some (.agg #[.int .i64 vb.st.lo, .int .i64 vb.st.hi, .slice ao2 ((vb.runs).length) cap2, .int .i64 vb.len, .int .i64 vb.wid])), some (136, some (.int .i64 1)), some (137, some (.pointer (some ⟨bk12, 3, none⟩))), some (138, some (.agg #[.int .u8 s1, .slice ap1 tp1.length cp1, .slice aw1 tw1.length cw1])), some (139, some (.int .i64 (leaP vb n))), some (140, some (.int .i64 (tru vb s1 tp1 tw1 (leaP vb n)))), some (141, some (.pointer (some ⟨bk148, 1, none⟩))), none, some (142, some (.pointer (some ⟨bk153, 1, none⟩))), none] [[],[],[],[2],[3],[],[5],[6],[],[4,7,8],[],[10],[11],[],[13],[14],[],[12,15,16,9],[0,0,2,3,4,5,6,7,8,9],[18,9,17,0,2,3,4,5,6,7,8,9],[1,0,1,2,3,4,5,6,7,8,9,10,11,12,13,14,15,16,17,18,19],[20,17,19,0,1,2,3,4,5,6,7,8,9,10,11,12,13,14,15,16,17,18,19]] (fun D _ w => Upd (fun i => i = bk148 ∨ i = bk153) w842 w ∧ Blk w bk148 82 [.int .i64 (if (thrS va n).there = true then (tru va s0 tp0 tw0 (entP va n)) else 0), (bif D 19 then .int .i64 (tru vb s1 tp1 tw1 (entP vb n)) else .int .i64 0)] ∧ Blk w bk153 82 [.int .i64 (if (thrS va n).there = true then (tru va s0 tp0 tw0 (leaP va n)) else 0), (bif D 21 then .int .i64 (tru vb s1 tp1 tw1 (leaP vb n)) else .int .i64 0)]) rfl rfl rfl (by kernel_rfl) (by kernel_rfl) ⟨(Upd.drew _).to, (B898.keep (Upd.drew _) (fun h => h)), (B899.keep (Upd.drew _) (fun h => h))⟩ ⟨?_, ?_, ?_, ?_, ?_, ?_, ?_, ?_, ?_, ?_, ?_, ?_, ?_, ?_, ?_, ?_, ?_, ?_, ?_, ?_, ?_, ?_, trivial⟩ ?_)
         · exact fun D ρ w _ _ _ hW => ⟨[(13, .int .i64 1)], ⟨fo rfl rfl, trivial⟩, fun Lr => t_move rfl rfl rfl (dz rfl hW)⟩
         · exact fun D ρ w _ _ _ hW => ⟨[(13, .int .i64 1)], ⟨fo rfl rfl, trivial⟩, fun Lr => t_move rfl rfl rfl (dz rfl hW)⟩
         · exact fun D ρ w _ _ _ hW => ⟨[(13, .int .i64 1)], ⟨fo rfl rfl, trivial⟩, fun Lr => t_move rfl rfl rfl (dz rfl hW)⟩
         ·
          intro D ρ w912 hcD hnD hdD hW
          obtain ⟨u913, B914, B915⟩ := hW
          have zu913 := u913.size
          have d19 := hcD.late 19 hnD rfl
          have B917 := B914
          simp only [d19, cond_false] at B917
          have d21 := hcD.late 21 hnD rfl
          have B918 := B915
          simp only [d21, cond_false] at B918
          refine ⟨[(3, .pointer (some ⟨bk2, 0, none⟩)), (125, .int .i64 1)], ⟨fo rfl rfl, fi 2 rfl rfl rfl, trivial⟩, fun Lr => ?_⟩
          show WL _ _ _ _ _ _ _ ((3, .pointer (some ⟨bk2, 0, none⟩)) :: (125, .int .i64 1) :: Lr) _
          refine t_indexArr (j := 1) (5) Try.underlying94 Try.sizeOf48 rfl rfl rfl rfl rfl (by decide) rfl ?_
          exact dz rfl ⟨u913, B914, B915⟩
         ·
          intro D ρ w919 hcD hnD hdD hW
          obtain ⟨u920, B921, B922⟩ := hW
          have zu920 := u920.size
          have d19 := hcD.late 19 hnD rfl
          have B924 := B921
          simp only [d19, cond_false] at B924
          have d21 := hcD.late 21 hnD rfl
          have B925 := B922
          simp only [d21, cond_false] at B925
          refine ⟨[(126, .pointer (some ⟨bk2, 5, none⟩))], ⟨fi 3 rfl rfl rfl, trivial⟩, fun Lr => ?_⟩
          show WL _ _ _ _ _ _ _ ((126, .pointer (some ⟨bk2, 5, none⟩)) :: Lr) _
          have B926 := (B896.keep u920 (show ¬ (bk2 = bk148 ∨ bk2 = bk153) by first | omega | assumption))
          refine t_loadN (vs := [.int .i64 vb.st.lo, .int .i64 vb.st.hi, .slice ao2 ((vb.runs).length) cap2, .int .i64 vb.len, .int .i64 vb.wid]) Try.isAgg48 Try.sizeOf48 rfl rfl rfl (B926.at.sub 5 5) rfl ?_
          exact dz rfl ⟨u920, B921, B922⟩
         · exact fun D ρ w _ _ _ hW => ⟨[(13, .int .i64 1)], ⟨fo rfl rfl, trivial⟩, fun Lr => t_move rfl rfl rfl (dz rfl hW)⟩
         ·
          intro D ρ w927 hcD hnD hdD hW
          obtain ⟨u928, B929, B930⟩ := hW
          have zu928 := u928.size
          have d19 := hcD.late 19 hnD rfl
          have B932 := B929
          simp only [d19, cond_false] at B932
          have d21 := hcD.late 21 hnD rfl
          have B933 := B930
          simp only [d21, cond_false] at B933
          refine ⟨[(5, .pointer (some ⟨bk12, 0, none⟩)), (128, .int .i64 1)], ⟨fo rfl rfl, fi 5 rfl rfl rfl, trivial⟩, fun Lr => ?_⟩
          show WL _ _ _ _ _ _ _ ((5, .pointer (some ⟨bk12, 0, none⟩)) :: (128, .int .i64 1) :: Lr) _
          refine t_indexArr (j := 1) (3) Try.underlying97 Try.sizeOf96 rfl rfl rfl rfl rfl (by decide) rfl ?_
          exact dz rfl ⟨u928, B929, B930⟩
         ·
          intro D ρ w934 hcD hnD hdD hW
          obtain ⟨u935, B936, B937⟩ := hW
          have zu935 := u935.size
          have d19 := hcD.late 19 hnD rfl
          have B939 := B936
          simp only [d19, cond_false] at B939
          have d21 := hcD.late 21 hnD rfl
          have B940 := B937
          simp only [d21, cond_false] at B940
          refine ⟨[(129, .pointer (some ⟨bk12, 3, none⟩))], ⟨fi 6 rfl rfl rfl, trivial⟩, fun Lr => ?_⟩
          show WL _ _ _ _ _ _ _ ((129, .pointer (some ⟨bk12, 3, none⟩)) :: Lr) _
          have B941 := (B897.keep u935 (show ¬ (bk12 = bk148 ∨ bk12 = bk153) by first | omega | assumption))
          refine t_loadN (vs := [.int .u8 s1, .slice ap1 tp1.length cp1, .slice aw1 tw1.length cw1]) Try.isAgg96 Try.sizeOf96 rfl rfl rfl (B941.at.sub 3 3) rfl ?_
          exact dz rfl ⟨u935, B936, B937⟩
         · exact fun D ρ w _ _ _ hW => ⟨[(19, .int .i64 (entP vb n))], ⟨fo rfl rfl, trivial⟩, fun Lr => t_move rfl rfl rfl (dz rfl hW)⟩
         ·
          intro D ρ w942 hcD hnD hdD hW
          obtain ⟨u943, B944, B945⟩ := hW
          have zu943 := u943.size
          have E946 := E894.next u943 (fun i hi (h : i = bk148 ∨ i = bk153) => show False by first | omega | assumption)
          have d19 := hcD.late 19 hnD rfl
          have B947 := B944
          simp only [d19, cond_false] at B947
          have d21 := hcD.late 21 hnD rfl
          have B948 := B945
          simp only [d21, cond_false] at B948
          refine ⟨[(127, .agg #[.int .i64 vb.st.lo, .int .i64 vb.st.hi, .slice ao2 ((vb.runs).length) cap2, .int .i64 vb.len, .int .i64 vb.wid]), (130, .agg #[.int .u8 s1, .slice ap1 tp1.length cp1, .slice aw1 tw1.length cw1]), (131, .int .i64 (entP vb n))], ⟨fi 4 rfl rfl rfl, fi 7 rfl rfl rfl, fi 8 rfl rfl rfl, trivial⟩, fun Lr => ?_⟩
          show WL _ _ _ _ _ _ _ ((127, .agg #[.int .i64 vb.st.lo, .int .i64 vb.st.hi, .slice ao2 ((vb.runs).length) cap2, .int .i64 vb.len, .int .i64 vb.wid]) :: (130, .agg #[.int .u8 s1, .slice ap1 tp1.length cp1, .slice aw1 tw1.length cw1]) :: (131, .int .i64 (entP vb n)) :: Lr) _
          refine t_call (vs := [.agg #[.int .i64 vb.st.lo, .int .i64 vb.st.hi, .slice ao2 ((vb.runs).length) cap2, .int .i64 vb.len, .int .i64 vb.wid], .agg #[.int .u8 s1, .slice ap1 tp1.length cp1, .slice aw1 tw1.length cw1], .int .i64 (entP vb n)]) own51 rfl rfl rfl rfl (truly_c vb ao2 b2 o2 cap2 s1 tp1 tw1 ap1 bp1 op1 cp1 aw1 bw1 ow1 cw1 (entP vb n) _ (hs2.keep E946 (fun _ h => h)) hq1 (hp1.keep E946 (fun _ h => h)) (hw1.keep E946 (fun _ h => h)) hT1.p hT1.w hpl1 hwl1 hk2 (by first | exact (entlea_rng hk2 hm).1 | exact (entlea_rng hk2 hm).2)) (fun v949 w950 r952 => ?_)
          obtain ⟨rfl, u951⟩ := r952
          have zu951 := u951.size
          exact dz rfl ⟨(u943.next u951 (fun _ _ h => h.elim)), (B944.keep u951 (fun h => h)), (B945.keep u951 (fun h => h))⟩
         · exact fun D ρ w _ _ _ hW => ⟨[(13, .int .i64 1)], ⟨fo rfl rfl, trivial⟩, fun Lr => t_move rfl rfl rfl (dz rfl hW)⟩
         ·
          intro D ρ w954 hcD hnD hdD hW
          obtain ⟨u955, B956, B957⟩ := hW
          have zu955 := u955.size
          have d21 := hcD.late 21 hnD rfl
          have B959 := B957
          simp only [d21, cond_false] at B959
          refine ⟨[(3, .pointer (some ⟨bk2, 0, none⟩)), (133, .int .i64 1)], ⟨fo rfl rfl, fi 10 rfl rfl rfl, trivial⟩, fun Lr => ?_⟩
          show WL _ _ _ _ _ _ _ ((3, .pointer (some ⟨bk2, 0, none⟩)) :: (133, .int .i64 1) :: Lr) _
          refine t_indexArr (j := 1) (5) Try.underlying94 Try.sizeOf48 rfl rfl rfl rfl rfl (by decide) rfl ?_
          exact dz rfl ⟨u955, B956, B957⟩
         ·
          intro D ρ w960 hcD hnD hdD hW
          obtain ⟨u961, B962, B963⟩ := hW
          have zu961 := u961.size
          have d21 := hcD.late 21 hnD rfl
          have B965 := B963
          simp only [d21, cond_false] at B965
          refine ⟨[(134, .pointer (some ⟨bk2, 5, none⟩))], ⟨fi 11 rfl rfl rfl, trivial⟩, fun Lr => ?_⟩
          show WL _ _ _ _ _ _ _ ((134, .pointer (some ⟨bk2, 5, none⟩)) :: Lr) _
          have B966 := (B896.keep u961 (show ¬ (bk2 = bk148 ∨ bk2 = bk153) by first | omega | assumption))
          refine t_loadN (vs := [.int .i64 vb.st.lo, .int .i64 vb.st.hi, .slice ao2 ((vb.runs).length) cap2, .int .i64 vb.len, .int .i64 vb.wid]) Try.isAgg48 Try.sizeOf48 rfl rfl rfl (B966.at.sub 5 5) rfl ?_
          exact dz rfl ⟨u961, B962, B963⟩
         · exact fun D ρ w _ _ _ hW => ⟨[(13, .int .i64 1)], ⟨fo rfl rfl, trivial⟩, fun Lr => t_move rfl rfl rfl (dz rfl hW)⟩
         ·
          intro D ρ w967 hcD hnD hdD hW
          obtain ⟨u968, B969, B970⟩ := hW
          have zu968 := u968.size
          have d21 := hcD.late 21 hnD rfl
          have B972 := B970
          simp only [d21, cond_false] at B972
          refine ⟨[(5, .pointer (some ⟨bk12, 0, none⟩)), (136, .int .i64 1)], ⟨fo rfl rfl, fi 13 rfl rfl rfl, trivial⟩, fun Lr => ?_⟩
          show WL _ _ _ _ _ _ _ ((5, .pointer (some ⟨bk12, 0, none⟩)) :: (136, .int .i64 1) :: Lr) _
          refine t_indexArr (j := 1) (3) Try.underlying97 Try.sizeOf96 rfl rfl rfl rfl rfl (by decide) rfl ?_
          exact dz rfl ⟨u968, B969, B970⟩
         ·
          intro D ρ w973 hcD hnD hdD hW
          obtain ⟨u974, B975, B976⟩ := hW
          have zu974 := u974.size
          have d21 := hcD.late 21 hnD rfl
          have B978 := B976
          simp only [d21, cond_false] at B978
          refine ⟨[(137, .pointer (some ⟨bk12, 3, none⟩))], ⟨fi 14 rfl rfl rfl, trivial⟩, fun Lr => ?_⟩
          show WL _ _ _ _ _ _ _ ((137, .pointer (some ⟨bk12, 3, none⟩)) :: Lr) _
          have B979 := (B897.keep u974 (show ¬ (bk12 = bk148 ∨ bk12 = bk153) by first | omega | assumption))
          refine t_loadN (vs := [.int .u8 s1, .slice ap1 tp1.length cp1, .slice aw1 tw1.length cw1]) Try.isAgg96 Try.sizeOf96 rfl rfl rfl (B979.at.sub 3 3) rfl ?_
          exact dz rfl ⟨u974, B975, B976⟩
         · exact fun D ρ w _ _ _ hW => ⟨[(20, .int .i64 (leaP vb n))], ⟨fo rfl rfl, trivial⟩, fun Lr => t_move rfl rfl rfl (dz rfl hW)⟩
         ·
          intro D ρ w980 hcD hnD hdD hW
          obtain ⟨u981, B982, B983⟩ := hW
          have zu981 := u981.size
          have E984 := E894.next u981 (fun i hi (h : i = bk148 ∨ i = bk153) => show False by first | omega | assumption)
          have d19 := hcD.late 19 hnD rfl
          have B985 := B982
          simp only [d19, cond_false] at B985
          have d21 := hcD.late 21 hnD rfl
          have B986 := B983
          simp only [d21, cond_false] at B986
          refine ⟨[(135, .agg #[.int .i64 vb.st.lo, .int .i64 vb.st.hi, .slice ao2 ((vb.runs).length) cap2, .int .i64 vb.len, .int .i64 vb.wid]), (138, .agg #[.int .u8 s1, .slice ap1 tp1.length cp1, .slice aw1 tw1.length cw1]), (139, .int .i64 (leaP vb n))], ⟨fi 12 rfl rfl rfl, fi 15 rfl rfl rfl, fi 16 rfl rfl rfl, trivial⟩, fun Lr => ?_⟩
          show WL _ _ _ _ _ _ _ ((135, .agg #[.int .i64 vb.st.lo, .int .i64 vb.st.hi, .slice ao2 ((vb.runs).length) cap2, .int .i64 vb.len, .int .i64 vb.wid]) :: (138, .agg #[.int .u8 s1, .slice ap1 tp1.length cp1, .slice aw1 tw1.length cw1]) :: (139, .int .i64 (leaP vb n)) :: Lr) _
          refine t_call (vs := [.agg #[.int .i64 vb.st.lo, .int .i64 vb.st.hi, .slice ao2 ((vb.runs).length) cap2, .int .i64 vb.len, .int .i64 vb.wid], .agg #[.int .u8 s1, .slice ap1 tp1.length cp1, .slice aw1 tw1.length cw1], .int .i64 (leaP vb n)]) own51 rfl rfl rfl rfl (truly_c vb ao2 b2 o2 cap2 s1 tp1 tw1 ap1 bp1 op1 cp1 aw1 bw1 ow1 cw1 (leaP vb n) _ (hs2.keep E984 (fun _ h => h)) hq1 (hp1.keep E984 (fun _ h => h)) (hw1.keep E984 (fun _ h => h)) hT1.p hT1.w hpl1 hwl1 hk2 (by first | exact (entlea_rng hk2 hm).1 | exact (entlea_rng hk2 hm).2)) (fun v987 w988 r990 => ?_)
          obtain ⟨rfl, u989⟩ := r990
          have zu989 := u989.size
          exact dz rfl ⟨(u981.next u989 (fun _ _ h => h.elim)), (B982.keep u989 (fun h => h)), (B983.keep u989 (fun h => h))⟩
         ·
          intro D ρ w992 hcD hnD hdD hW
          obtain ⟨u993, B994, B995⟩ := hW
          have zu993 := u993.size
          have d19 := hcD.late 19 hnD rfl
          have B997 := B994
          simp only [d19, cond_false] at B997
          have d21 := hcD.late 21 hnD rfl
          have B998 := B995
          simp only [d21, cond_false] at B998
          refine ⟨[(10, .pointer (some ⟨bk148, 0, none⟩)), (123, .int .i64 1)], ⟨fo rfl rfl, fi 0 rfl rfl rfl, trivial⟩, fun Lr => ?_⟩
          show WL _ _ _ _ _ _ _ ((10, .pointer (some ⟨bk148, 0, none⟩)) :: (123, .int .i64 1) :: Lr) _
          refine t_indexArr (j := 1) (1) Try.underlying82 Try.sizeOf3 rfl rfl rfl rfl rfl (by decide) rfl ?_
          exact dz rfl ⟨u993, B994, B995⟩
         ·
          intro D ρ w999 hcD hnD hdD hW
          obtain ⟨u1000, B1001, B1002⟩ := hW
          have zu1000 := u1000.size
          have B1004 := B1001
          simp only [hnD, cond_false] at B1004
          have d21 := hcD.late 21 hnD rfl
          have B1005 := B1002
          simp only [d21, cond_false] at B1005
          refine ⟨[(132, .int .i64 (tru vb s1 tp1 tw1 (entP vb n))), (141, .pointer (some ⟨bk148, 1, none⟩))], ⟨fi 9 rfl rfl rfl, fi 18 rfl rfl rfl, trivial⟩, fun Lr => ?_⟩
          show WL _ _ _ _ _ _ _ ((132, .int .i64 (tru vb s1 tp1 tw1 (entP vb n))) :: (141, .pointer (some ⟨bk148, 1, none⟩)) :: Lr) _
          refine t_store (vs := [.int .i64 (tru vb s1 tp1 tw1 (entP vb n))]) Try.sizeOf3 rfl rfl rfl B1004 rfl rfl (Nat.le_of_ble_eq_true rfl) (by simp [Value.oneCell']) (fun w1006 sw1006 B1008 u1007 => ?_)
          have zu1007 := u1007.size
          have B1008 : Blk w1006 bk148 82 [.int .i64 (if (thrS va n).there = true then (tru va s0 tp0 tw0 (entP va n)) else 0), .int .i64 (tru vb s1 tp1 tw1 (entP vb n))] := B1008
          exact dz0 rfl ⟨(u1000.next u1007 (fun i hi (h : i = bk148) => show i = bk148 ∨ i = bk153 by first | omega | assumption)), (by show Blk w1006 bk148 82 [.int .i64 (if (thrS va n).there = true then (tru va s0 tp0 tw0 (entP va n)) else 0), .int .i64 (tru vb s1 tp1 tw1 (entP vb n))]; exact B1008), (B1002.keep u1007 (show ¬ (bk153 = bk148) by first | omega | assumption))⟩
         ·
          intro D ρ w1010 hcD hnD hdD hW
          obtain ⟨u1011, B1012, B1013⟩ := hW
          have zu1011 := u1011.size
          have d19 := hdD 19 rfl
          have B1015 := B1012
          simp only [d19, cond_true] at B1015
          have d21 := hcD.late 21 hnD rfl
          have B1016 := B1013
          simp only [d21, cond_false] at B1016
          refine ⟨[(11, .pointer (some ⟨bk153, 0, none⟩)), (124, .int .i64 1)], ⟨fo rfl rfl, fi 1 rfl rfl rfl, trivial⟩, fun Lr => ?_⟩
          show WL _ _ _ _ _ _ _ ((11, .pointer (some ⟨bk153, 0, none⟩)) :: (124, .int .i64 1) :: Lr) _
          refine t_indexArr (j := 1) (1) Try.underlying82 Try.sizeOf3 rfl rfl rfl rfl rfl (by decide) rfl ?_
          exact dz rfl ⟨u1011, B1012, B1013⟩
         ·
          intro D ρ w1017 hcD hnD hdD hW
          obtain ⟨u1018, B1019, B1020⟩ := hW
          have zu1018 := u1018.size
          have d19 := hdD 19 rfl
          have B1022 := B1019
          simp only [d19, cond_true] at B1022
          have B1023 := B1020
          simp only [hnD, cond_false] at B1023
          refine ⟨[(140, .int .i64 (tru vb s1 tp1 tw1 (leaP vb n))), (142, .pointer (some ⟨bk153, 1, none⟩))], ⟨fi 17 rfl rfl rfl, fi 20 rfl rfl rfl, trivial⟩, fun Lr => ?_⟩
          show WL _ _ _ _ _ _ _ ((140, .int .i64 (tru vb s1 tp1 tw1 (leaP vb n))) :: (142, .pointer (some ⟨bk153, 1, none⟩)) :: Lr) _
          refine t_store (vs := [.int .i64 (tru vb s1 tp1 tw1 (leaP vb n))]) Try.sizeOf3 rfl rfl rfl B1023 rfl rfl (Nat.le_of_ble_eq_true rfl) (by simp [Value.oneCell']) (fun w1024 sw1024 B1026 u1025 => ?_)
          have zu1025 := u1025.size
          have B1026 : Blk w1024 bk153 82 [.int .i64 (if (thrS va n).there = true then (tru va s0 tp0 tw0 (leaP va n)) else 0), .int .i64 (tru vb s1 tp1 tw1 (leaP vb n))] := B1026
          exact dz0 rfl ⟨(u1018.next u1025 (fun i hi (h : i = bk153) => show i = bk148 ∨ i = bk153 by first | omega | assumption)), (B1019.keep u1025 (show ¬ (bk148 = bk153) by first | omega | assumption)), (by show Blk w1024 bk153 82 [.int .i64 (if (thrS va n).there = true then (tru va s0 tp0 tw0 (leaP va n)) else 0), .int .i64 (tru vb s1 tp1 tw1 (leaP vb n))]; exact B1026)⟩
         intro ρ w1028 hW
         obtain ⟨u1029, B1030, B1031⟩ := hW
         have zu1029 := u1029.size
         have E1032 := E894.next u1029 (fun i hi (h : i = bk148 ∨ i = bk153) => show False by first | omega | assumption)
         have B1030 : Blk w1028 bk148 82 [.int .i64 (if (thrS va n).there = true then (tru va s0 tp0 tw0 (entP va n)) else 0), .int .i64 (tru vb s1 tp1 tw1 (entP vb n))] := B1030
         have B1031 : Blk w1028 bk153 82 [.int .i64 (if (thrS va n).there = true then (tru va s0 tp0 tw0 (leaP va n)) else 0), .int .i64 (tru vb s1 tp1 tw1 (leaP vb n))] := B1031
         refine QK.weak [(3, .pointer (some ⟨bk2, 0, none⟩)), (4, .pointer (some ⟨bk7, 0, none⟩)), (5, .pointer (some ⟨bk12, 0, none⟩)), (7, .bool (MeetOk va vb n && mayB (thrS va n) (thrS vb n))), (8, .bool (MeetOk va vb n && mustB (thrS va n) (thrS vb n))), (10, .pointer (some ⟨bk148, 0, none⟩)), (11, .pointer (some ⟨bk153, 0, none⟩)), (12, .bool ((thrS va n).there && (thrS vb n).there)), (13, .int .i64 1), (14, .pointer (some ⟨bk672, 0, none⟩)), (15, .pointer (some ⟨bk677, 0, none⟩)), (16, .bool ((thrS vb n).there)), (17, .int .i64 0), (18, .int .i64 (tail vb)), (19, .int .i64 (entP vb n)), (20, .int .i64 (leaP vb n)), (59, .int .i64 1), (60, .bool true), (61, .int .i64 0), (62, .int .i64 1), (63, .tuple #[.agg #[.int .i64 ((ThrS vb n).inn.lo), .int .i64 ((ThrS vb n).inn.hi)], .agg #[.int .i64 ((ThrS vb n).out.lo), .int .i64 ((ThrS vb n).out.hi)], .bool ((ThrS vb n).there), .int .i64 (ThrE vb n)]), (64, .int .i64 1), (65, .pointer (some ⟨bk2, 5, none⟩)), (66, .agg #[.int .i64 vb.st.lo, .int .i64 vb.st.hi, .slice ao2 ((vb.runs).length) cap2, .int .i64 vb.len, .int .i64 vb.wid]), (68, .agg #[.int .i64 n.frm, .int .i64 n.to, .int .i64 n.wid, .bool n.single]), (69, .tuple #[.agg #[.int .i64 ((ThrS vb n).inn.lo), .int .i64 ((ThrS vb n).inn.hi)], .agg #[.int .i64 ((ThrS vb n).out.lo), .int .i64 ((ThrS vb n).out.hi)], .bool ((ThrS vb n).there), .int .i64 (ThrE vb n)]), (70, .agg #[.int .i64 ((ThrS vb n).inn.lo), .int .i64 ((ThrS vb n).inn.hi)]), (71, .agg #[.int .i64 ((ThrS vb n).out.lo), .int .i64 ((ThrS vb n).out.hi)]), (72, .bool ((ThrS vb n).there)), (73, .int .i64 (ThrE vb n)), (74, .int .i64 0), (75, .bool false), (80, .bool ((thrS vb n).there)), (81, .bool (!((thrS vb n).there))), (90, .int .i64 1), (91, .pointer (some ⟨bk2, 5, none⟩)), (92, .pointer (some ⟨bk2, 8, none⟩)), (93, .int .i64 vb.len), (94, .int .i64 (vb.len + 99)), (95, .int .i64 (tail vb)), (96, .pointer (some ⟨bk7, 0, none⟩)), (97, .int .i64 n.frm), (98, .pointer (some ⟨bk7, 1, none⟩)), (99, .int .i64 n.to), (100, .int .i64 (tail vb)), (101, .int .i64 (n.to + (tail vb))), (123, .int .i64 1), (124, .int .i64 1), (125, .int .i64 1), (126, .pointer (some ⟨bk2, 5, none⟩)), (127, .agg #[.int .i64 vb.st.lo, .int .i64 vb.st.hi, .slice ao2 ((vb.runs).length) cap2, .int .i64 vb.len, .int .i64 vb.wid]), (128, .int .i64 1), (129, .pointer (some ⟨bk12, 3, none⟩)), (130, .agg #[.int .u8 s1, .slice ap1 tp1.length cp1, .slice aw1 tw1.length cw1]), (131, .int .i64 (entP vb n)), (132, .int .i64 (tru vb s1 tp1 tw1 (entP vb n))), (133, .int .i64 1), (134, .pointer (some ⟨bk2, 5, none⟩)), (135, .agg #[.int .i64 vb.st.lo, .int .i64 vb.st.hi, .slice ao2 ((vb.runs).length) cap2, .int .i64 vb.len, .int .i64 vb.wid]), (136, .int .i64 1), (137, .pointer (some ⟨bk12, 3, none⟩)), (138, .agg #[.int .u8 s1, .slice ap1 tp1.length cp1, .slice aw1 tw1.length cw1]), (139, .int .i64 (leaP vb n)), (140, .int .i64 (tru vb s1 tp1 tw1 (leaP vb n))), (141, .pointer (some ⟨bk148, 1, none⟩)), (142, .pointer (some ⟨bk153, 1, none⟩))] ⟨rfl, rfl, rfl, rfl, rfl, rfl, rfl, rfl, rfl, rfl, rfl, rfl, rfl, rfl, rfl, rfl, rfl, rfl, rfl, rfl, rfl, rfl, rfl, rfl, rfl, rfl, rfl, rfl, rfl, rfl, rfl, rfl, rfl, rfl, rfl, rfl, rfl, rfl, rfl, rfl, rfl, rfl, rfl, rfl, rfl, rfl, rfl, rfl, rfl, rfl, rfl, rfl, rfl, rfl, rfl, rfl, rfl, rfl, rfl, rfl, rfl, rfl, rfl, rfl, rfl, rfl, trivial⟩ (hK895 _ _ (c_seq fun K1033 hK1033 => (c_seq fun K1034 hK1034 => ?_)))
         have hin1 := truV_in (ts := s1) hT1 hq1 hk2 he1
         have hou1 := truV_in (ts := s1) hT1 hq1 hk2 hl1
         have hmo1 := truV_mono (ts := s1) hT1 hk2 hm he1 hl1
         have g9148 : ¬ (tru vb s1 tp1 tw1 (entP vb n)) < (arr vb (entP vb n)).lo := by omega
         have g9155 : ¬ (arr vb (entP vb n)).hi < (tru vb s1 tp1 tw1 (entP vb n)) := by omega
         have g9163 : ¬ (tru vb s1 tp1 tw1 (leaP vb n)) < (arr vb (leaP vb n)).lo := by omega
         have g9171 : ¬ (arr vb (leaP vb n)).hi < (tru vb s1 tp1 tw1 (leaP vb n)) := by omega
         have g9180 : ¬ (tru vb s1 tp1 tw1 (leaP vb n)) < (tru vb s1 tp1 tw1 (entP vb n)) := by omega
         have B1035 := (((B819.keep u838 (fun h => h)).keep u843 (fun h => h)).keep u1029 (show ¬ (bk672 = bk148 ∨ bk672 = bk153) by first | omega | assumption))
         have B1036 := (((B821.keep u838 (fun h => h)).keep u843 (fun h => h)).keep u1029 (show ¬ (bk677 = bk148 ∨ bk677 = bk153) by first | omega | assumption))
         refine WC.weak [(3, .pointer (some ⟨bk2, 0, none⟩)), (4, .pointer (some ⟨bk7, 0, none⟩)), (5, .pointer (some ⟨bk12, 0, none⟩)), (7, .bool (MeetOk va vb n && mayB (thrS va n) (thrS vb n))), (8, .bool (MeetOk va vb n && mustB (thrS va n) (thrS vb n))), (10, .pointer (some ⟨bk148, 0, none⟩)), (11, .pointer (some ⟨bk153, 0, none⟩)), (12, .bool ((thrS va n).there && (thrS vb n).there)), (13, .int .i64 1), (14, .pointer (some ⟨bk672, 0, none⟩)), (15, .pointer (some ⟨bk677, 0, none⟩)), (16, .bool ((thrS vb n).there)), (17, .int .i64 0), (18, .int .i64 (tail vb)), (19, .int .i64 (entP vb n)), (20, .int .i64 (leaP vb n)), (59, .int .i64 1), (60, .bool true), (61, .int .i64 0), (62, .int .i64 1), (63, .tuple #[.agg #[.int .i64 ((ThrS vb n).inn.lo), .int .i64 ((ThrS vb n).inn.hi)], .agg #[.int .i64 ((ThrS vb n).out.lo), .int .i64 ((ThrS vb n).out.hi)], .bool ((ThrS vb n).there), .int .i64 (ThrE vb n)]), (64, .int .i64 1), (65, .pointer (some ⟨bk2, 5, none⟩)), (66, .agg #[.int .i64 vb.st.lo, .int .i64 vb.st.hi, .slice ao2 ((vb.runs).length) cap2, .int .i64 vb.len, .int .i64 vb.wid]), (68, .agg #[.int .i64 n.frm, .int .i64 n.to, .int .i64 n.wid, .bool n.single]), (69, .tuple #[.agg #[.int .i64 ((ThrS vb n).inn.lo), .int .i64 ((ThrS vb n).inn.hi)], .agg #[.int .i64 ((ThrS vb n).out.lo), .int .i64 ((ThrS vb n).out.hi)], .bool ((ThrS vb n).there), .int .i64 (ThrE vb n)]), (70, .agg #[.int .i64 ((ThrS vb n).inn.lo), .int .i64 ((ThrS vb n).inn.hi)]), (71, .agg #[.int .i64 ((ThrS vb n).out.lo), .int .i64 ((ThrS vb n).out.hi)]), (72, .bool ((ThrS vb n).there)), (73, .int .i64 (ThrE vb n)), (74, .int .i64 0), (75, .bool false), (80, .bool ((thrS vb n).there)), (81, .bool (!((thrS vb n).there))), (90, .int .i64 1), (91, .pointer (some ⟨bk2, 5, none⟩)), (92, .pointer (some ⟨bk2, 8, none⟩)), (93, .int .i64 vb.len), (94, .int .i64 (vb.len + 99)), (95, .int .i64 (tail vb)), (96, .pointer (some ⟨bk7, 0, none⟩)), (97, .int .i64 n.frm), (98, .pointer (some ⟨bk7, 1, none⟩)), (99, .int .i64 n.to), (100, .int .i64 (tail vb)), (101, .int .i64 (n.to + (tail vb))), (123, .int .i64 1), (124, .int .i64 1), (125, .int .i64 1), (126, .pointer (some ⟨bk2, 5, none⟩)), (127, .agg #[.int .i64 vb.st.lo, .int .i64 vb.st.hi, .slice ao2 ((vb.runs).length) cap2, .int .i64 vb.len, .int .i64 vb.wid]), (128, .int .i64 1), (129, .pointer (some ⟨bk12, 3, none⟩)), (130, .agg #[.int .u8 s1, .slice ap1 tp1.length cp1, .slice aw1 tw1.length cw1]), (131, .int .i64 (entP vb n)), (132, .int .i64 (tru vb s1 tp1 tw1 (entP vb n))), (133, .int .i64 1), (134, .pointer (some ⟨bk2, 5, none⟩)), (135, .agg #[.int .i64 vb.st.lo, .int .i64 vb.st.hi, .slice ao2 ((vb.runs).length) cap2, .int .i64 vb.len, .int .i64 vb.wid]), (136, .int .i64 1), (137, .pointer (some ⟨bk12, 3, none⟩)), (138, .agg #[.int .u8 s1, .slice ap1 tp1.length cp1, .slice aw1 tw1.length cw1]), (139, .int .i64 (leaP vb n)), (140, .int .i64 (tru vb s1 tp1 tw1 (leaP vb n))), (141, .pointer (some ⟨bk148, 1, none⟩)), (142, .pointer (some ⟨bk153, 1, none⟩))] ⟨rfl, rfl, rfl, rfl, rfl, rfl, rfl, rfl, rfl, rfl, rfl, rfl, rfl, rfl, rfl, rfl, rfl, rfl, rfl, rfl, rfl, rfl, rfl, rfl, rfl, rfl, rfl, rfl, rfl, rfl, rfl, rfl, rfl, rfl, rfl, rfl, rfl, rfl, rfl, rfl, rfl, rfl, rfl, rfl, rfl, rfl, rfl, rfl, rfl, rfl, rfl, rfl, rfl, rfl, rfl, rfl, rfl, rfl, rfl, rfl, rfl, rfl, rfl, rfl, rfl, rfl, trivial⟩ (c_drawn follows 39 [some (143, some (.int .i64 1)), some (144, some (.pointer (some ⟨bk148, 1, none⟩))), some (145, some (.int .i64 (tru vb s1 tp1 tw1 (entP vb n)))), some (146, some (.pointer (some ⟨bk672, 0, none⟩))), some (147, some (.int .i64 ((arr vb (entP vb n)).lo))), some (148, some (.bool false)), some (149, some (.bool false)), some (150, some (.int .i64 1)), some (151, some (.pointer (some ⟨bk148, 1, none⟩))), some (152, some (.int .i64 (tru vb s1 tp1 tw1 (entP vb n)))), some (153, some (.pointer (some ⟨bk672, 1, none⟩))), some (154, some (.int .i64 ((arr vb (entP vb n)).hi))), some (155, some (.bool false)), some (156, some (.bool false)), some (157, some (.bool false)), some (158, some (.int .i64 1)), some (159, some (.pointer (some ⟨bk153, 1, none⟩))), some (160, some (.int .i64 (tru vb s1 tp1 tw1 (leaP vb n)))), some (161, some (.pointer (some ⟨bk677, 0, none⟩))), some (162, some (.int .i64 ((arr vb (leaP vb n)).lo))), some (163, some (.bool false)), some (164, some (.bool false)), some (165, some (.bool false)), some (166, some (.int .i64 1)), some (167, some (.pointer (some ⟨bk153, 1, none⟩))), some (168, some (.int .i64 (tru vb s1 tp1 tw1 (leaP vb n)))), some (169, some (.pointer (some ⟨bk677, 1, none⟩))), some (170, some (.int .i64 ((arr vb (leaP vb n)).hi))), some (171, some (.bool false)), some (172, some (.bool false)), some (173, some (.bool false)), some (174, some (.int .i64 1)), some (175, some (.pointer (some ⟨bk148, 1, none⟩))), some (176, some (.int .i64 (tru vb s1 tp1 tw1 (entP vb n)))), some (177, some (.int .i64 1)), some (178, some (.pointer (some ⟨bk153, 1, none⟩))), some (179, some (.int .i64 (tru vb s1 tp1 tw1 (leaP vb n)))), some (180, some (.bool false)), some (181, some (.bool false))] [[],[0],[1],[],[3],[2,4],[5],[6],[7,6],[8,6],[6],[10,6],[9,11,6],[6,12],[13,6],[14],[15,14],[16,14],[14],[18,14],[17,19,14],[14,20],[21,14],[22],[23,22],[24,22],[22],[26,22],[25,27,22],[22,28],[29,22],[30],[31,30],[32,30],[30],[34,30],[35,30],[33,36,30],[30,37]] (fun _ _ w => Upd (fun _ => False) w1028 w) rfl rfl rfl (by kernel_rfl) (by kernel_rfl) (Upd.drew _).to ⟨?_, ?_, ?_, ?_, ?_, ?_, ?_, ?_, ?_, ?_, ?_, ?_, ?_, ?_, ?_, ?_, ?_, ?_, ?_, ?_, ?_, ?_, ?_, ?_, ?_, ?_, ?_, ?_, ?_, ?_, ?_, ?_, ?_, ?_, ?_, ?_, ?_, ?_, ?_, trivial⟩ ?_)
         · exact fun D ρ w _ _ _ hW => ⟨[(13, .int .i64 1)], ⟨fo rfl rfl, trivial⟩, fun Lr => t_move rfl rfl rfl (dz rfl hW)⟩
         ·
          intro D ρ w1037 hcD hnD hdD hW
          have zhW := hW.size
          refine ⟨[(10, .pointer (some ⟨bk148, 0, none⟩)), (143, .int .i64 1)], ⟨fo rfl rfl, fi 0 rfl rfl rfl, trivial⟩, fun Lr => ?_⟩
          show WL _ _ _ _ _ _ _ ((10, .pointer (some ⟨bk148, 0, none⟩)) :: (143, .int .i64 1) :: Lr) _
          refine t_indexArr (j := 1) (1) Try.underlying82 Try.sizeOf3 rfl rfl rfl rfl rfl (by decide) rfl ?_
          exact dz rfl hW
         ·
          intro D ρ w1040 hcD hnD hdD hW
          have zhW := hW.size
          refine ⟨[(144, .pointer (some ⟨bk148, 1, none⟩))], ⟨fi 1 rfl rfl rfl, trivial⟩, fun Lr => ?_⟩
          show WL _ _ _ _ _ _ _ ((144, .pointer (some ⟨bk148, 1, none⟩)) :: Lr) _
          have B1043 := (B1030.keep hW (fun h => h))
          refine t_load Try.isAgg3 rfl rfl rfl (B1043.get rfl) ?_
          exact dz rfl hW
         · exact fun D ρ w _ _ _ hW => ⟨[(14, .pointer (some ⟨bk672, 0, none⟩))], ⟨fo rfl rfl, trivial⟩, fun Lr => t_field Try.underlying45 rfl Try.sizeOf3 (0) rfl rfl rfl rfl (dz rfl hW)⟩
         ·
          intro D ρ w1044 hcD hnD hdD hW
          have zhW := hW.size
          refine ⟨[(146, .pointer (some ⟨bk672, 0, none⟩))], ⟨fi 3 rfl rfl rfl, trivial⟩, fun Lr => ?_⟩
          show WL _ _ _ _ _ _ _ ((146, .pointer (some ⟨bk672, 0, none⟩)) :: Lr) _
          have B1047 := (B1035.keep hW (fun h => h))
          refine t_load Try.isAgg3 rfl rfl rfl (B1047.get rfl) ?_
          exact dz rfl hW
         · exact fun D ρ w _ _ _ hW => ⟨[(145, .int .i64 (tru vb s1 tp1 tw1 (entP vb n))), (147, .int .i64 ((arr vb (entP vb n)).lo))], ⟨fi 2 rfl rfl rfl, fi 4 rfl rfl rfl, trivial⟩, fun Lr => t_cmp rfl rfl rfl rfl rfl (t_samehd (v := .bool false) (by first | exact congrArg Value.bool (decide_eq_false g9148) | exact congrArg Value.bool g9148 | simp [g9148]) (dz rfl hW))⟩
         · exact fun D ρ w _ _ _ hW => ⟨[(148, .bool false)], ⟨fi 5 rfl rfl rfl, trivial⟩, fun Lr => t_move rfl rfl rfl (dz rfl hW)⟩
         · exact fun D ρ w _ _ _ hW => ⟨[(13, .int .i64 1), (149, .bool false)], ⟨fo rfl rfl, fi 6 rfl rfl rfl, trivial⟩, fun Lr => t_move rfl rfl rfl (dz rfl hW)⟩
         ·
          intro D ρ w1048 hcD hnD hdD hW
          have zhW := hW.size
          refine ⟨[(10, .pointer (some ⟨bk148, 0, none⟩)), (149, .bool false), (150, .int .i64 1)], ⟨fo rfl rfl, fi 6 rfl rfl rfl, fi 7 rfl rfl rfl, trivial⟩, fun Lr => ?_⟩
          show WL _ _ _ _ _ _ _ ((10, .pointer (some ⟨bk148, 0, none⟩)) :: (149, .bool false) :: (150, .int .i64 1) :: Lr) _
          refine t_indexArr (j := 1) (1) Try.underlying82 Try.sizeOf3 rfl rfl rfl rfl rfl (by decide) rfl ?_
          exact dz rfl hW
         ·
          intro D ρ w1051 hcD hnD hdD hW
          have zhW := hW.size
          refine ⟨[(149, .bool false), (151, .pointer (some ⟨bk148, 1, none⟩))], ⟨fi 6 rfl rfl rfl, fi 8 rfl rfl rfl, trivial⟩, fun Lr => ?_⟩
          show WL _ _ _ _ _ _ _ ((149, .bool false) :: (151, .pointer (some ⟨bk148, 1, none⟩)) :: Lr) _
          have B1054 := (B1030.keep hW (fun h => h))
          refine t_load Try.isAgg3 rfl rfl rfl (B1054.get rfl) ?_
          exact dz rfl hW
         · exact fun D ρ w _ _ _ hW => ⟨[(14, .pointer (some ⟨bk672, 0, none⟩)), (149, .bool false)], ⟨fo rfl rfl, fi 6 rfl rfl rfl, trivial⟩, fun Lr => t_field Try.underlying45 rfl Try.sizeOf3 (1) rfl rfl rfl rfl (dz rfl hW)⟩
         ·
          intro D ρ w1055 hcD hnD hdD hW
          have zhW := hW.size
          refine ⟨[(149, .bool false), (153, .pointer (some ⟨bk672, 1, none⟩))], ⟨fi 6 rfl rfl rfl, fi 10 rfl rfl rfl, trivial⟩, fun Lr => ?_⟩
          show WL _ _ _ _ _ _ _ ((149, .bool false) :: (153, .pointer (some ⟨bk672, 1, none⟩)) :: Lr) _
          have B1058 := (B1035.keep hW (fun h => h))
          refine t_load Try.isAgg3 rfl rfl rfl (B1058.get rfl) ?_
          exact dz rfl hW
         · exact fun D ρ w _ _ _ hW => ⟨[(149, .bool false), (152, .int .i64 (tru vb s1 tp1 tw1 (entP vb n))), (154, .int .i64 ((arr vb (entP vb n)).hi))], ⟨fi 6 rfl rfl rfl, fi 9 rfl rfl rfl, fi 11 rfl rfl rfl, trivial⟩, fun Lr => t_cmp rfl rfl rfl rfl rfl (t_samehd (v := .bool false) (by first | exact congrArg Value.bool (decide_eq_false g9155) | exact congrArg Value.bool g9155 | simp [g9155]) (dz rfl hW))⟩
         · exact fun D ρ w _ _ _ hW => ⟨[(149, .bool false), (155, .bool false)], ⟨fi 6 rfl rfl rfl, fi 12 rfl rfl rfl, trivial⟩, fun Lr => t_pick_f rfl rfl rfl rfl (dz rfl hW)⟩
         · exact fun D ρ w _ _ _ hW => ⟨[(156, .bool false)], ⟨fi 13 rfl rfl rfl, trivial⟩, fun Lr => t_move rfl rfl rfl (dz rfl hW)⟩
         · exact fun D ρ w _ _ _ hW => ⟨[(13, .int .i64 1), (157, .bool false)], ⟨fo rfl rfl, fi 14 rfl rfl rfl, trivial⟩, fun Lr => t_move rfl rfl rfl (dz rfl hW)⟩
         ·
          intro D ρ w1059 hcD hnD hdD hW
          have zhW := hW.size
          refine ⟨[(11, .pointer (some ⟨bk153, 0, none⟩)), (157, .bool false), (158, .int .i64 1)], ⟨fo rfl rfl, fi 14 rfl rfl rfl, fi 15 rfl rfl rfl, trivial⟩, fun Lr => ?_⟩
          show WL _ _ _ _ _ _ _ ((11, .pointer (some ⟨bk153, 0, none⟩)) :: (157, .bool false) :: (158, .int .i64 1) :: Lr) _
          refine t_indexArr (j := 1) (1) Try.underlying82 Try.sizeOf3 rfl rfl rfl rfl rfl (by decide) rfl ?_
          exact dz rfl hW
         ·
          intro D ρ w1062 hcD hnD hdD hW
          have zhW := hW.size
          refine ⟨[(157, .bool false), (159, .pointer (some ⟨bk153, 1, none⟩))], ⟨fi 14 rfl rfl rfl, fi 16 rfl rfl rfl, trivial⟩, fun Lr => ?_⟩
          show WL _ _ _ _ _ _ _ ((157, .bool false) :: (159, .pointer (some ⟨bk153, 1, none⟩)) :: Lr) _
          have B1065 := (B1031.keep hW (fun h => h))
          refine t_load Try.isAgg3 rfl rfl rfl (B1065.get rfl) ?_
          exact dz rfl hW
         · exact fun D ρ w _ _ _ hW => ⟨[(15, .pointer (some ⟨bk677, 0, none⟩)), (157, .bool false)], ⟨fo rfl rfl, fi 14 rfl rfl rfl, trivial⟩, fun Lr => t_field Try.underlying45 rfl Try.sizeOf3 (0) rfl rfl rfl rfl (dz rfl hW)⟩
         ·
          intro D ρ w1066 hcD hnD hdD hW
          have zhW := hW.size
          refine ⟨[(157, .bool false), (161, .pointer (some ⟨bk677, 0, none⟩))], ⟨fi 14 rfl rfl rfl, fi 18 rfl rfl rfl, trivial⟩, fun Lr => ?_⟩
          show WL _ _ _ _ _ _ _ ((157, .bool false) :: (161, .pointer (some ⟨bk677, 0, none⟩)) :: Lr) _
          have B1069 := (B1036.keep hW (fun h => h))
          refine t_load Try.isAgg3 rfl rfl rfl (B1069.get rfl) ?_
          exact dz rfl hW
         · exact fun D ρ w _ _ _ hW => ⟨[(157, .bool false), (160, .int .i64 (tru vb s1 tp1 tw1 (leaP vb n))), (162, .int .i64 ((arr vb (leaP vb n)).lo))], ⟨fi 14 rfl rfl rfl, fi 17 rfl rfl rfl, fi 19 rfl rfl rfl, trivial⟩, fun Lr => t_cmp rfl rfl rfl rfl rfl (t_samehd (v := .bool false) (by first | exact congrArg Value.bool (decide_eq_false g9163) | exact congrArg Value.bool g9163 | simp [g9163]) (dz rfl hW))⟩
         · exact fun D ρ w _ _ _ hW => ⟨[(157, .bool false), (163, .bool false)], ⟨fi 14 rfl rfl rfl, fi 20 rfl rfl rfl, trivial⟩, fun Lr => t_pick_f rfl rfl rfl rfl (dz rfl hW)⟩
         · exact fun D ρ w _ _ _ hW => ⟨[(164, .bool false)], ⟨fi 21 rfl rfl rfl, trivial⟩, fun Lr => t_move rfl rfl rfl (dz rfl hW)⟩
         · exact fun D ρ w _ _ _ hW => ⟨[(13, .int .i64 1), (165, .bool false)], ⟨fo rfl rfl, fi 22 rfl rfl rfl, trivial⟩, fun Lr => t_move rfl rfl rfl (dz rfl hW)⟩
         ·
          intro D ρ w1070 hcD hnD hdD hW
          have zhW := hW.size
          refine ⟨[(11, .pointer (some ⟨bk153, 0, none⟩)), (165, .bool false), (166, .int .i64 1)], ⟨fo rfl rfl, fi 22 rfl rfl rfl, fi 23 rfl rfl rfl, trivial⟩, fun Lr => ?_⟩
          show WL _ _ _ _ _ _ _ ((11, .pointer (some ⟨bk153, 0, none⟩)) :: (165, .bool false) :: (166, .int .i64 1) :: Lr) _
          refine t_indexArr (j := 1) (1) Try.underlying82 Try.sizeOf3 rfl rfl rfl rfl rfl (by decide) rfl ?_
          exact dz rfl hW
         ·
          intro D ρ w1073 hcD hnD hdD hW
          have zhW := hW.size
          refine ⟨[(165, .bool false), (167, .pointer (some ⟨bk153, 1, none⟩))], ⟨fi 22 rfl rfl rfl, fi 24 rfl rfl rfl, trivial⟩, fun Lr => ?_⟩
          show WL _ _ _ _ _ _ _ ((165, .bool false) :: (167, .pointer (some ⟨bk153, 1, none⟩)) :: Lr) _
          have B1076 := (B1031.keep hW (fun h => h))
          refine t_load Try.isAgg3 rfl rfl rfl (B1076.get rfl) ?_
          exact dz rfl hW
         · exact fun D ρ w _ _ _ hW => ⟨[(15, .pointer (some ⟨bk677, 0, none⟩)), (165, .bool false)], ⟨fo rfl rfl, fi 22 rfl rfl rfl, trivial⟩, fun Lr => t_field Try.underlying45 rfl Try.sizeOf3 (1) rfl rfl rfl rfl (dz rfl hW)⟩
         ·
          intro D ρ w1077 hcD hnD hdD hW
          have zhW := hW.size
          refine ⟨[(165, .bool false), (169, .pointer (some ⟨bk677, 1, none⟩))], ⟨fi 22 rfl rfl rfl, fi 26 rfl rfl rfl, trivial⟩, fun Lr => ?_⟩
          show WL _ _ _ _ _ _ _ ((165, .bool false) :: (169, .pointer (some ⟨bk677, 1, none⟩)) :: Lr) _
          have B1080 := (B1036.keep hW (fun h => h))
          refine t_load Try.isAgg3 rfl rfl rfl (B1080.get rfl) ?_
          exact dz rfl hW
         · exact fun D ρ w _ _ _ hW => ⟨[(165, .bool false), (168, .int .i64 (tru vb s1 tp1 tw1 (leaP vb n))), (170, .int .i64 ((arr vb (leaP vb n)).hi))], ⟨fi 22 rfl rfl rfl, fi 25 rfl rfl rfl, fi 27 rfl rfl rfl, trivial⟩, fun Lr => t_cmp rfl rfl rfl rfl rfl (t_samehd (v := .bool false) (by first | exact congrArg Value.bool (decide_eq_false g9171) | exact congrArg Value.bool g9171 | simp [g9171]) (dz rfl hW))⟩
         · exact fun D ρ w _ _ _ hW => ⟨[(165, .bool false), (171, .bool false)], ⟨fi 22 rfl rfl rfl, fi 28 rfl rfl rfl, trivial⟩, fun Lr => t_pick_f rfl rfl rfl rfl (dz rfl hW)⟩
         · exact fun D ρ w _ _ _ hW => ⟨[(172, .bool false)], ⟨fi 29 rfl rfl rfl, trivial⟩, fun Lr => t_move rfl rfl rfl (dz rfl hW)⟩
         · exact fun D ρ w _ _ _ hW => ⟨[(13, .int .i64 1), (173, .bool false)], ⟨fo rfl rfl, fi 30 rfl rfl rfl, trivial⟩, fun Lr => t_move rfl rfl rfl (dz rfl hW)⟩
         ·
          intro D ρ w1081 hcD hnD hdD hW
          have zhW := hW.size
          refine ⟨[(10, .pointer (some ⟨bk148, 0, none⟩)), (173, .bool false), (174, .int .i64 1)], ⟨fo rfl rfl, fi 30 rfl rfl rfl, fi 31 rfl rfl rfl, trivial⟩, fun Lr => ?_⟩
          show WL _ _ _ _ _ _ _ ((10, .pointer (some ⟨bk148, 0, none⟩)) :: (173, .bool false) :: (174, .int .i64 1) :: Lr) _
          refine t_indexArr (j := 1) (1) Try.underlying82 Try.sizeOf3 rfl rfl rfl rfl rfl (by decide) rfl ?_
          exact dz rfl hW
         ·
          intro D ρ w1084 hcD hnD hdD hW
          have zhW := hW.size
          refine ⟨[(173, .bool false), (175, .pointer (some ⟨bk148, 1, none⟩))], ⟨fi 30 rfl rfl rfl, fi 32 rfl rfl rfl, trivial⟩, fun Lr => ?_⟩
          show WL _ _ _ _ _ _ _ ((173, .bool false) :: (175, .pointer (some ⟨bk148, 1, none⟩)) :: Lr) _
          have B1087 := (B1030.keep hW (fun h => h))
          refine t_load Try.isAgg3 rfl rfl rfl (B1087.get rfl) ?_
          exact dz rfl hW
         · exact fun D ρ w _ _ _ hW => ⟨[(13, .int .i64 1), (173, .bool false)], ⟨fo rfl rfl, fi 30 rfl rfl rfl, trivial⟩, fun Lr => t_move rfl rfl rfl (dz rfl hW)⟩
         ·
          intro D ρ w1088 hcD hnD hdD hW
          have zhW := hW.size
          refine ⟨[(11, .pointer (some ⟨bk153, 0, none⟩)), (173, .bool false), (177, .int .i64 1)], ⟨fo rfl rfl, fi 30 rfl rfl rfl, fi 34 rfl rfl rfl, trivial⟩, fun Lr => ?_⟩
          show WL _ _ _ _ _ _ _ ((11, .pointer (some ⟨bk153, 0, none⟩)) :: (173, .bool false) :: (177, .int .i64 1) :: Lr) _
          refine t_indexArr (j := 1) (1) Try.underlying82 Try.sizeOf3 rfl rfl rfl rfl rfl (by decide) rfl ?_
          exact dz rfl hW
         ·
          intro D ρ w1091 hcD hnD hdD hW
          have zhW := hW.size
          refine ⟨[(173, .bool false), (178, .pointer (some ⟨bk153, 1, none⟩))], ⟨fi 30 rfl rfl rfl, fi 35 rfl rfl rfl, trivial⟩, fun Lr => ?_⟩
          show WL _ _ _ _ _ _ _ ((173, .bool false) :: (178, .pointer (some ⟨bk153, 1, none⟩)) :: Lr) _
          have B1094 := (B1031.keep hW (fun h => h))
          refine t_load Try.isAgg3 rfl rfl rfl (B1094.get rfl) ?_
          exact dz rfl hW
         · exact fun D ρ w _ _ _ hW => ⟨[(173, .bool false), (176, .int .i64 (tru vb s1 tp1 tw1 (entP vb n))), (179, .int .i64 (tru vb s1 tp1 tw1 (leaP vb n)))], ⟨fi 30 rfl rfl rfl, fi 33 rfl rfl rfl, fi 36 rfl rfl rfl, trivial⟩, fun Lr => t_cmp rfl rfl rfl rfl rfl (t_samehd (v := .bool false) (by first | exact congrArg Value.bool (decide_eq_false g9180) | exact congrArg Value.bool g9180 | simp [g9180]) (dz rfl hW))⟩
         · exact fun D ρ w _ _ _ hW => ⟨[(173, .bool false), (180, .bool false)], ⟨fi 30 rfl rfl rfl, fi 37 rfl rfl rfl, trivial⟩, fun Lr => t_pick_f rfl rfl rfl rfl (dz rfl hW)⟩
         intro ρ w1095 hW
         have u1096 : Upd (fun _ => False) w1028 w1095 := hW
         have zu1096 := u1096.size
         have E1097 := E1032.next u1096 (fun _ _ h => h.elim)
         refine QK.weak [(3, .pointer (some ⟨bk2, 0, none⟩)), (4, .pointer (some ⟨bk7, 0, none⟩)), (5, .pointer (some ⟨bk12, 0, none⟩)), (7, .bool (MeetOk va vb n && mayB (thrS va n) (thrS vb n))), (8, .bool (MeetOk va vb n && mustB (thrS va n) (thrS vb n))), (10, .pointer (some ⟨bk148, 0, none⟩)), (11, .pointer (some ⟨bk153, 0, none⟩)), (12, .bool ((thrS va n).there && (thrS vb n).there)), (13, .int .i64 1), (14, .pointer (some ⟨bk672, 0, none⟩)), (15, .pointer (some ⟨bk677, 0, none⟩)), (16, .bool ((thrS vb n).there)), (17, .int .i64 0), (18, .int .i64 (tail vb)), (19, .int .i64 (entP vb n)), (20, .int .i64 (leaP vb n)), (59, .int .i64 1), (60, .bool true), (61, .int .i64 0), (62, .int .i64 1), (63, .tuple #[.agg #[.int .i64 ((ThrS vb n).inn.lo), .int .i64 ((ThrS vb n).inn.hi)], .agg #[.int .i64 ((ThrS vb n).out.lo), .int .i64 ((ThrS vb n).out.hi)], .bool ((ThrS vb n).there), .int .i64 (ThrE vb n)]), (64, .int .i64 1), (65, .pointer (some ⟨bk2, 5, none⟩)), (66, .agg #[.int .i64 vb.st.lo, .int .i64 vb.st.hi, .slice ao2 ((vb.runs).length) cap2, .int .i64 vb.len, .int .i64 vb.wid]), (68, .agg #[.int .i64 n.frm, .int .i64 n.to, .int .i64 n.wid, .bool n.single]), (69, .tuple #[.agg #[.int .i64 ((ThrS vb n).inn.lo), .int .i64 ((ThrS vb n).inn.hi)], .agg #[.int .i64 ((ThrS vb n).out.lo), .int .i64 ((ThrS vb n).out.hi)], .bool ((ThrS vb n).there), .int .i64 (ThrE vb n)]), (70, .agg #[.int .i64 ((ThrS vb n).inn.lo), .int .i64 ((ThrS vb n).inn.hi)]), (71, .agg #[.int .i64 ((ThrS vb n).out.lo), .int .i64 ((ThrS vb n).out.hi)]), (72, .bool ((ThrS vb n).there)), (73, .int .i64 (ThrE vb n)), (74, .int .i64 0), (75, .bool false), (80, .bool ((thrS vb n).there)), (81, .bool (!((thrS vb n).there))), (90, .int .i64 1), (91, .pointer (some ⟨bk2, 5, none⟩)), (92, .pointer (some ⟨bk2, 8, none⟩)), (93, .int .i64 vb.len), (94, .int .i64 (vb.len + 99)), (95, .int .i64 (tail vb)), (96, .pointer (some ⟨bk7, 0, none⟩)), (97, .int .i64 n.frm), (98, .pointer (some ⟨bk7, 1, none⟩)), (99, .int .i64 n.to), (100, .int .i64 (tail vb)), (101, .int .i64 (n.to + (tail vb))), (123, .int .i64 1), (124, .int .i64 1), (125, .int .i64 1), (126, .pointer (some ⟨bk2, 5, none⟩)), (127, .agg #[.int .i64 vb.st.lo, .int .i64 vb.st.hi, .slice ao2 ((vb.runs).length) cap2, .int .i64 vb.len, .int .i64 vb.wid]), (128, .int .i64 1), (129, .pointer (some ⟨bk12, 3, none⟩)), (130, .agg #[.int .u8 s1, .slice ap1 tp1.length cp1, .slice aw1 tw1.length cw1]), (131, .int .i64 (entP vb n)), (132, .int .i64 (tru vb s1 tp1 tw1 (entP vb n))), (133, .int .i64 1), (134, .pointer (some ⟨bk2, 5, none⟩)), (135, .agg #[.int .i64 vb.st.lo, .int .i64 vb.st.hi, .slice ao2 ((vb.runs).length) cap2, .int .i64 vb.len, .int .i64 vb.wid]), (136, .int .i64 1), (137, .pointer (some ⟨bk12, 3, none⟩)), (138, .agg #[.int .u8 s1, .slice ap1 tp1.length cp1, .slice aw1 tw1.length cw1]), (139, .int .i64 (leaP vb n)), (140, .int .i64 (tru vb s1 tp1 tw1 (leaP vb n))), (141, .pointer (some ⟨bk148, 1, none⟩)), (142, .pointer (some ⟨bk153, 1, none⟩)), (143, .int .i64 1), (144, .pointer (some ⟨bk148, 1, none⟩)), (145, .int .i64 (tru vb s1 tp1 tw1 (entP vb n))), (146, .pointer (some ⟨bk672, 0, none⟩)), (147, .int .i64 ((arr vb (entP vb n)).lo)), (148, .bool false), (149, .bool false), (150, .int .i64 1), (151, .pointer (some ⟨bk148, 1, none⟩)), (152, .int .i64 (tru vb s1 tp1 tw1 (entP vb n))), (153, .pointer (some ⟨bk672, 1, none⟩)), (154, .int .i64 ((arr vb (entP vb n)).hi)), (155, .bool false), (156, .bool false), (157, .bool false), (158, .int .i64 1), (159, .pointer (some ⟨bk153, 1, none⟩)), (160, .int .i64 (tru vb s1 tp1 tw1 (leaP vb n))), (161, .pointer (some ⟨bk677, 0, none⟩)), (162, .int .i64 ((arr vb (leaP vb n)).lo)), (163, .bool false), (164, .bool false), (165, .bool false), (166, .int .i64 1), (167, .pointer (some ⟨bk153, 1, none⟩)), (168, .int .i64 (tru vb s1 tp1 tw1 (leaP vb n))), (169, .pointer (some ⟨bk677, 1, none⟩)), (170, .int .i64 ((arr vb (leaP vb n)).hi)), (171, .bool false), (172, .bool false), (173, .bool false), (174, .int .i64 1), (175, .pointer (some ⟨bk148, 1, none⟩)), (176, .int .i64 (tru vb s1 tp1 tw1 (entP vb n))), (177, .int .i64 1), (178, .pointer (some ⟨bk153, 1, none⟩)), (179, .int .i64 (tru vb s1 tp1 tw1 (leaP vb n))), (180, .bool false), (181, .bool false)] ⟨rfl, rfl, rfl, rfl, rfl, rfl, rfl, rfl, rfl, rfl, rfl, rfl, rfl, rfl, rfl, rfl, rfl, rfl, rfl, rfl, rfl, rfl, rfl, rfl, rfl, rfl, rfl, rfl, rfl, rfl, rfl, rfl, rfl, rfl, rfl, rfl, rfl, rfl, rfl, rfl, rfl, rfl, rfl, rfl, rfl, rfl, rfl, rfl, rfl, rfl, rfl, rfl, rfl, rfl, rfl, rfl, rfl, rfl, rfl, rfl, rfl, rfl, rfl, rfl, rfl, rfl, rfl, rfl, rfl, rfl, rfl, rfl, rfl, rfl, rfl, rfl, rfl, rfl, rfl, rfl, rfl, rfl, rfl, rfl, rfl, rfl, rfl, rfl, rfl, rfl, rfl, rfl, rfl, rfl, rfl, rfl, rfl, rfl, rfl, rfl, rfl, rfl, rfl, rfl, rfl, trivial⟩ (hK1034 _ _ (c_cond_f rfl (c_skip (hK1033 _ _ (c_seq fun K1098 hK1098 => (c_region (t_move rfl rfl rfl (t_indexArr (j := 1) (5) Try.underlying94 Try.sizeOf48 rfl rfl rfl rfl rfl (by decide) rfl ?_))))))))
         have B1099 := ((B896.keep u1029 (show ¬ (bk2 = bk148 ∨ bk2 = bk153) by first | omega | assumption)).keep u1096 (fun h => h))
         refine t_loadN (vs := [.int .i64 vb.st.lo, .int .i64 vb.st.hi, .slice ao2 ((vb.runs).length) cap2, .int .i64 vb.len, .int .i64 vb.wid]) Try.isAgg48 Try.sizeOf48 rfl rfl rfl (B1099.at.sub 5 5) rfl (t_call (vs := [.agg #[.int .i64 vb.st.lo, .int .i64 vb.st.hi, .slice ao2 ((vb.runs).length) cap2, .int .i64 vb.len, .int .i64 vb.wid]]) own28 rfl rfl rfl rfl (copied_c vb ao2 b2 o2 cap2 _ (hs2.keep E1097 (fun _ h => h)) (by omega)) (fun v1101 w1102 r1104 => ?_))
         obtain ⟨⟨aoC1100, bC1100, cpC1100, rfl, hC1100, gebC1100⟩, u1103⟩ := r1104
         have zu1103 := u1103.size
         refine t_move rfl rfl rfl (t_call (vs := [.agg #[.int .i64 vb.st.lo, .int .i64 vb.st.hi, .slice aoC1100 ((vb.runs).length) cpC1100, .int .i64 vb.len, .int .i64 vb.wid], .int .i64 (leaP vb n)]) own30 rfl rfl rfl rfl (Arrive_c vb aoC1100 bC1100 0 cpC1100 (leaP vb n) _ hC1100 (by omega)) (fun v1106 w1107 r1109 => ?_))
         obtain ⟨rfl, u1108⟩ := r1109
         have zu1108 := u1108.size
         refine t_move rfl rfl rfl (t_extract (vs := [.agg #[.int .i64 ((ArrB vb (leaP vb n)).lo), .int .i64 ((ArrB vb (leaP vb n)).hi)], .int .i64 (ArrE vb (leaP vb n))]) rfl rfl rfl rfl (t_extract (vs := [.agg #[.int .i64 ((ArrB vb (leaP vb n)).lo), .int .i64 ((ArrB vb (leaP vb n)).hi)], .int .i64 (ArrE vb (leaP vb n))]) rfl rfl rfl rfl (t_alloc (cs := [.int .i64 0, .int .i64 0]) Try.zeroValue45 rfl rfl rfl (fun bk1111 w1112 ebk1111 sbk1111 B1113 u1114 => ?_))))
         have zu1114 := u1114.size
         refine t_store (vs := [.int .i64 ((ArrB vb (leaP vb n)).lo), .int .i64 ((ArrB vb (leaP vb n)).hi)]) Try.sizeOf45 rfl rfl rfl B1113 rfl rfl (Nat.le_of_ble_eq_true rfl) (by simp [Value.oneCell']) (fun w1116 sw1116 B1118 u1117 => ?_)
         have zu1117 := u1117.size
         have B1118 : Blk w1116 bk1111 45 [.int .i64 ((ArrB vb (leaP vb n)).lo), .int .i64 ((ArrB vb (leaP vb n)).hi)] := B1118
         refine t_assign rfl rfl rfl (t_nil' (hK1098 _ _ (c_seq fun K1120 hK1120 => (c_region (t_same 17 (v := .int .i64 0) rfl (congrArg (Value.int .i64) (by simp [ArrE, hk2, hl1])) ?_)))))
         have B1121 : Blk w1116 bk1111 45 [.int .i64 ((arr vb (leaP vb n)).lo), .int .i64 ((arr vb (leaP vb n)).hi)] := by
          have e : ([.int .i64 ((ArrB vb (leaP vb n)).lo), .int .i64 ((ArrB vb (leaP vb n)).hi)] : List Value) = [.int .i64 ((arr vb (leaP vb n)).lo), .int .i64 ((arr vb (leaP vb n)).hi)] := by simp [ArrB, hk2, hl1]
          rw [← e]; exact B1118
         refine t_move rfl rfl rfl (t_cmp rfl rfl rfl rfl rfl (t_samehd (v := .bool false) rfl (t_move rfl rfl rfl (t_loadN (vs := [.int .i64 ((arr vb (leaP vb n)).lo), .int .i64 ((arr vb (leaP vb n)).hi)]) Try.isAgg45 Try.sizeOf45 rfl rfl rfl (B1121.at.sub 0 2) rfl ?_))))
         have B1122 := (((((B1036.keep u1096 (fun h => h)).keep u1103 (fun h => h)).keep u1108 (fun h => h)).keep u1114 (fun h => h)).keep u1117 (show ¬ (bk677 = bk1111) by first | omega | assumption))
         refine t_loadN (vs := [.int .i64 ((arr vb (leaP vb n)).lo), .int .i64 ((arr vb (leaP vb n)).hi)]) Try.isAgg45 Try.sizeOf45 rfl rfl rfl (B1122.at.sub 0 2) rfl (t_neS (xs := [.int .i64 ((arr vb (leaP vb n)).lo), .int .i64 ((arr vb (leaP vb n)).hi)]) (ys := [.int .i64 ((arr vb (leaP vb n)).lo), .int .i64 ((arr vb (leaP vb n)).hi)]) (by kernel_rfl) (eqIn45 9998 ((arr vb (leaP vb n)).lo) ((arr vb (leaP vb n)).hi) ((arr vb (leaP vb n)).lo) ((arr vb (leaP vb n)).hi)) rfl rfl rfl rfl (t_samehd (v := .bool false) (by simp) (t_pick_f rfl rfl rfl rfl (t_nil' (hK1120 _ _ (c_cond_f rfl (c_skip ?_)))))))
         have B1123 := (((((B1030.keep u1096 (fun h => h)).keep u1103 (fun h => h)).keep u1108 (fun h => h)).keep u1114 (fun h => h)).keep u1117 (show ¬ (bk148 = bk1111) by first | omega | assumption))
         have B1124 : Blk w1116 bk148 82 [.int .i64 (if (thrS va n).there = true then (tru va s0 tp0 tw0 (entP va n)) else 0), .int .i64 (if (thrS vb n).there = true then (tru vb s1 tp1 tw1 (entP vb n)) else 0)] := by
          have e : ([.int .i64 (if (thrS va n).there = true then (tru va s0 tp0 tw0 (entP va n)) else 0), .int .i64 (tru vb s1 tp1 tw1 (entP vb n))] : List Value) = [.int .i64 (if (thrS va n).there = true then (tru va s0 tp0 tw0 (entP va n)) else 0), .int .i64 (if (thrS vb n).there = true then (tru vb s1 tp1 tw1 (entP vb n)) else 0)] := by simp [hth1]
          rw [← e]; exact B1123
         have B1125 := (((((B1031.keep u1096 (fun h => h)).keep u1103 (fun h => h)).keep u1108 (fun h => h)).keep u1114 (fun h => h)).keep u1117 (show ¬ (bk153 = bk1111) by first | omega | assumption))
         have B1126 : Blk w1116 bk153 82 [.int .i64 (if (thrS va n).there = true then (tru va s0 tp0 tw0 (leaP va n)) else 0), .int .i64 (if (thrS vb n).there = true then (tru vb s1 tp1 tw1 (leaP vb n)) else 0)] := by
          have e : ([.int .i64 (if (thrS va n).there = true then (tru va s0 tp0 tw0 (leaP va n)) else 0), .int .i64 (tru vb s1 tp1 tw1 (leaP vb n))] : List Value) = [.int .i64 (if (thrS va n).there = true then (tru va s0 tp0 tw0 (leaP va n)) else 0), .int .i64 (if (thrS vb n).there = true then (tru vb s1 tp1 tw1 (leaP vb n)) else 0)] := by simp [hth1]
          rw [← e]; exact B1125
         exact hK654 () _ _ ⟨rfl, rfl, rfl, rfl, rfl, rfl, rfl, rfl, rfl, rfl, rfl, rfl, rfl, trivial⟩ ⟨(((((((((((Upd.refl _ _).next u786 (fun _ _ h => h.elim)).next u805 (fun _ _ h => h.elim)).next u838 (fun _ _ h => h.elim)).next u843 (fun _ _ h => h.elim)).next u1029 (fun i hi (h : i = bk148 ∨ i = bk153) => show i = bk148 ∨ i = bk153 by first | omega | assumption)).next u1096 (fun _ _ h => h.elim)).next u1103 (fun _ _ h => h.elim)).next u1108 (fun _ _ h => h.elim)).next u1114 (fun _ _ h => h.elim)).next u1117 (fun i hi (h : i = bk1111) => show i = bk148 ∨ i = bk153 by first | omega | assumption)), B1124, B1126⟩
     ·
      intro _x w655 hW
      obtain ⟨u656, I1127, I1128⟩ := hW
      have zu656 := u656.size
      have E1129 := E649.next u656 (fun i hi (h : i = bk148 ∨ i = bk153) => show False by first | omega | assumption)
      refine c_region (t_move rfl rfl rfl (t_ari rfl rfl rfl rfl rfl (by omega) (t_samehd (v := .int .i64 2) rfl (t_assign rfl rfl rfl (t_nil' (hK650 _ _ (WR.weak [(3, .pointer (some ⟨bk2, 0, none⟩)), (4, .pointer (some ⟨bk7, 0, none⟩)), (5, .pointer (some ⟨bk12, 0, none⟩)), (7, .bool (MeetOk va vb n && mayB (thrS va n) (thrS vb n))), (8, .bool (MeetOk va vb n && mustB (thrS va n) (thrS vb n))), (10, .pointer (some ⟨bk148, 0, none⟩)), (11, .pointer (some ⟨bk153, 0, none⟩)), (12, .bool ((thrS va n).there && (thrS vb n).there)), (13, .int .i64 2), (59, .int .i64 1), (60, .bool true), (61, .int .i64 1), (62, .int .i64 2)] ⟨rfl, rfl, rfl, rfl, rfl, rfl, rfl, rfl, rfl, rfl, rfl, rfl, rfl, trivial⟩ (r_round fun K1130 hK1130 => (c_seq fun K1131 hK1131 => (c_seq fun K1132 hK1132 => (c_region (t_move rfl rfl rfl (t_cmp rfl rfl rfl rfl rfl (t_samehd (v := .bool false) rfl (t_nil' (hK1132 _ _ (c_cond_f rfl (c_exit (hK168 _ _ (c_seq fun K1133 hK1133 => (c_seq fun K1134 hK1134 => (c_region (t_move rfl rfl rfl ?_)))))))))))))))))))))))
      refine t_not rfl rfl rfl (t_nil' (hK1134 _ _ (c_cond rfl (fun g199 => ?_) (fun g199 => ?_))))
      ·
       have hz : ((thrS va n).there && (thrS vb n).there) = false := by revert g199; cases (thrS va n).there <;> cases (thrS vb n).there <;> simp
       refine c_same 7 (v := .bool false) rfl (congrArg Value.bool (by simp [mayB, mustB, hz])) (c_same 8 (v := .bool false) rfl (congrArg Value.bool (by simp [mayB, mustB, hz])) (c_seq fun K1135 hK1135 => (c_region (t_move rfl rfl rfl (t_not rfl rfl rfl (t_move rfl rfl rfl (t_move rfl rfl rfl (t_not rfl rfl rfl (t_pick_t rfl rfl rfl rfl (t_move rfl rfl rfl (t_call (vs := []) own16 rfl rfl rfl rfl (known_c _) (fun v1136 w1137 r1139 => ?_))))))))))))
       obtain ⟨rfl, u1138⟩ := r1139
       have zu1138 := u1138.size
       have E1140 := E1129.next u1138 (fun _ _ h => h.elim)
       refine t_pick_t rfl rfl rfl rfl (t_assign rfl rfl rfl (t_nil' (hK1135 _ _ (c_ret (f_ret1 (v := .bool true) Try.results12 rfl ?_)))))
       exact ⟨rfl, E1140⟩
      ·
       have hz : (thrS va n).there = true ∧ (thrS vb n).there = true := by simpa using g199
       obtain ⟨hth0, hth1⟩ := hz
       obtain ⟨hS0, he0, hl0⟩ := thrS_is hth0
       have hin0 := truV_in (ts := s0) hT0 hq0 hk1 he0
       have hou0 := truV_in (ts := s0) hT0 hq0 hk1 hl0
       obtain ⟨hS1, he1, hl1⟩ := thrS_is hth1
       have hin1 := truV_in (ts := s1) hT1 hq1 hk2 he1
       have hou1 := truV_in (ts := s1) hT1 hq1 hk2 hl1
       have B1141 : Blk w655 bk148 82 [.int .i64 (tru va s0 tp0 tw0 (entP va n)), .int .i64 (tru vb s1 tp1 tw1 (entP vb n))] := by
        have e : ([.int .i64 (if (thrS va n).there = true then (tru va s0 tp0 tw0 (entP va n)) else 0), .int .i64 (if (thrS vb n).there = true then (tru vb s1 tp1 tw1 (entP vb n)) else 0)] : List Value) = [.int .i64 (tru va s0 tp0 tw0 (entP va n)), .int .i64 (tru vb s1 tp1 tw1 (entP vb n))] := by simp [hth0, hth1]
        rw [← e]; exact I1127
       have B1142 : Blk w655 bk153 82 [.int .i64 (tru va s0 tp0 tw0 (leaP va n)), .int .i64 (tru vb s1 tp1 tw1 (leaP vb n))] := by
        have e : ([.int .i64 (if (thrS va n).there = true then (tru va s0 tp0 tw0 (leaP va n)) else 0), .int .i64 (if (thrS vb n).there = true then (tru vb s1 tp1 tw1 (leaP vb n)) else 0)] : List Value) = [.int .i64 (tru va s0 tp0 tw0 (leaP va n)), .int .i64 (tru vb s1 tp1 tw1 (leaP vb n))] := by simp [hth0, hth1]
        rw [← e]; exact I1128
       refine c_skip (hK1133 _ _ (c_seq fun K1143 hK1143 => (c_region ?_)))
       have hMO : MeetOk va vb n = true := by simp [MeetOk, hk1, hk2, hm, hEa, hEb]
       refine t_same 7 (v := .bool (decide ((arr va (entP va n)).lo ≤ (arr vb (leaP vb n)).hi ∧ (arr vb (entP vb n)).lo ≤ (arr va (leaP va n)).hi))) rfl (congrArg Value.bool (by simp [hMO, mayB, hS0, hS1])) (t_same 8 (v := .bool (decide ((arr va (entP va n)).hi ≤ (arr vb (leaP vb n)).lo ∧ (arr vb (entP vb n)).hi ≤ (arr va (leaP va n)).lo))) rfl (congrArg Value.bool (by simp [hMO, mustB, hS0, hS1])) (t_indexArr (j := 0) (0) Try.underlying82 Try.sizeOf3 rfl rfl rfl rfl rfl (by decide) rfl (t_load Try.isAgg3 rfl rfl rfl (B1141.get rfl) (t_indexArr (j := 1) (1) Try.underlying82 Try.sizeOf3 rfl rfl rfl rfl rfl (by decide) rfl (t_load Try.isAgg3 rfl rfl rfl (B1142.get rfl) (t_cmp rfl rfl rfl rfl rfl (t_move rfl rfl rfl (t_splitp 214 rfl (fun g214 => ?_) (fun g214 => ?_)))))))))
       ·
        refine t_indexArr (j := 1) (1) Try.underlying82 Try.sizeOf3 rfl rfl rfl rfl rfl (by decide) rfl (t_load Try.isAgg3 rfl rfl rfl (B1141.get rfl) (t_indexArr (j := 0) (0) Try.underlying82 Try.sizeOf3 rfl rfl rfl rfl rfl (by decide) rfl (t_load Try.isAgg3 rfl rfl rfl (B1142.get rfl) (t_cmp rfl rfl rfl rfl rfl (t_pick_t rfl rfl rfl rfl (t_assign rfl rfl rfl (t_nil' (hK1143 _ _ (c_seq fun K1144 hK1144 => (c_region (t_move rfl rfl rfl (t_move rfl rfl rfl (t_splitp 222 rfl (fun g222 => ?_) (fun g222 => ?_))))))))))))))
        ·
         refine t_same 7 (v := .bool true) rfl (congrArg Value.bool (decide_eq_true g222)) (t_skip rfl rfl rfl (t_skip rfl rfl rfl (t_pick_t rfl rfl rfl rfl (t_move rfl rfl rfl (t_move rfl rfl rfl (t_move rfl rfl rfl (t_splitp 228 rfl (fun g228 => ?_) (fun g228 => ?_))))))))
         ·
          refine t_skip rfl rfl rfl (t_skip rfl rfl rfl (t_pick_t rfl rfl rfl rfl (t_pick_t rfl rfl rfl rfl (t_move rfl rfl rfl (t_move rfl rfl rfl (t_move rfl rfl rfl (t_skip rfl rfl rfl (t_skip rfl rfl rfl (t_pick_t rfl rfl rfl rfl (t_pick_t rfl rfl rfl rfl (t_move rfl rfl rfl (t_call (vs := []) own16 rfl rfl rfl rfl (known_c _) (fun v1145 w1146 r1148 => ?_)))))))))))))
          obtain ⟨rfl, u1147⟩ := r1148
          have zu1147 := u1147.size
          have E1149 := E1129.next u1147 (fun _ _ h => h.elim)
          refine t_pick_t rfl rfl rfl rfl (t_assign rfl rfl rfl (t_nil' (hK1144 _ _ (c_ret (f_ret1 (v := .bool true) Try.results12 rfl ?_)))))
          exact ⟨rfl, E1149⟩
         ·
          refine t_move rfl rfl rfl (t_notp rfl rfl rfl (t_pick_f rfl rfl rfl rfl (t_pick_t rfl rfl rfl rfl (t_move rfl rfl rfl (t_splitp 233 rfl (fun g233 => ?_) (fun g233 => ?_))))))
          ·
           refine t_move rfl rfl rfl (t_move rfl rfl rfl (t_skip rfl rfl rfl (t_skip rfl rfl rfl (t_pick_t rfl rfl rfl rfl (t_pick_t rfl rfl rfl rfl (t_move rfl rfl rfl (t_call (vs := []) own16 rfl rfl rfl rfl (known_c _) (fun v1150 w1151 r1153 => ?_))))))))
           obtain ⟨rfl, u1152⟩ := r1153
           have zu1152 := u1152.size
           have E1154 := E1129.next u1152 (fun _ _ h => h.elim)
           refine t_pick_t rfl rfl rfl rfl (t_assign rfl rfl rfl (t_nil' (hK1144 _ _ (c_ret (f_ret1 (v := .bool true) Try.results12 rfl ?_)))))
           exact ⟨rfl, E1154⟩
          ·
           refine t_skip rfl rfl rfl (t_skip rfl rfl rfl (t_skip rfl rfl rfl (t_skip rfl rfl rfl (t_skip rfl rfl rfl (t_pick_f rfl rfl rfl rfl (t_move rfl rfl rfl (t_skip rfl rfl rfl (t_pick_f rfl rfl rfl rfl (t_assign rfl rfl rfl (t_nil' (hK1144 _ _ (c_ret (f_ret1 (v := .bool false) Try.results12 rfl ?_)))))))))))))
           exfalso; omega
        ·
         refine t_same 7 (v := .bool false) rfl (congrArg Value.bool (decide_eq_false g222)) (t_move rfl rfl rfl (t_notp rfl rfl rfl (t_pick_f rfl rfl rfl rfl (t_move rfl rfl rfl (t_splitp 226 rfl (fun g226 => ?_) (fun g226 => ?_))))))
         ·
          refine t_move rfl rfl rfl (t_move rfl rfl rfl (t_splitp 228 rfl (fun g228 => ?_) (fun g228 => ?_)))
          ·
           refine t_skip rfl rfl rfl (t_skip rfl rfl rfl (t_pick_t rfl rfl rfl rfl (t_pick_t rfl rfl rfl rfl (t_move rfl rfl rfl (t_move rfl rfl rfl (t_move rfl rfl rfl (t_move rfl rfl rfl (t_notp rfl rfl rfl (t_pick_f rfl rfl rfl rfl (t_pick_t rfl rfl rfl rfl (t_move rfl rfl rfl (t_splitp 240 rfl (fun g240 => ?_) (fun g240 => ?_)))))))))))))
           ·
            refine t_call (vs := []) own16 rfl rfl rfl rfl (known_c _) (fun v1155 w1156 r1158 => ?_)
            obtain ⟨rfl, u1157⟩ := r1158
            have zu1157 := u1157.size
            have E1159 := E1129.next u1157 (fun _ _ h => h.elim)
            refine t_pick_t rfl rfl rfl rfl (t_assign rfl rfl rfl (t_nil' (hK1144 _ _ (c_ret (f_ret1 (v := .bool true) Try.results12 rfl ?_)))))
            exact ⟨rfl, E1159⟩
           ·
            refine t_skip rfl rfl rfl (t_pick_f rfl rfl rfl rfl (t_assign rfl rfl rfl (t_nil' (hK1144 _ _ (c_ret (f_ret1 (v := .bool false) Try.results12 rfl ?_))))))
            exfalso; omega
          ·
           refine t_move rfl rfl rfl (t_notp rfl rfl rfl (t_pick_f rfl rfl rfl rfl (t_pick_t rfl rfl rfl rfl (t_move rfl rfl rfl (t_splitp 233 rfl (fun g233 => ?_) (fun g233 => ?_))))))
           ·
            refine t_move rfl rfl rfl (t_move rfl rfl rfl (t_move rfl rfl rfl (t_notp rfl rfl rfl (t_pick_f rfl rfl rfl rfl (t_pick_t rfl rfl rfl rfl (t_move rfl rfl rfl (t_splitp 240 rfl (fun g240 => ?_) (fun g240 => ?_))))))))
            ·
             refine t_call (vs := []) own16 rfl rfl rfl rfl (known_c _) (fun v1160 w1161 r1163 => ?_)
             obtain ⟨rfl, u1162⟩ := r1163
             have zu1162 := u1162.size
             have E1164 := E1129.next u1162 (fun _ _ h => h.elim)
             refine t_pick_t rfl rfl rfl rfl (t_assign rfl rfl rfl (t_nil' (hK1144 _ _ (c_ret (f_ret1 (v := .bool true) Try.results12 rfl ?_)))))
             exact ⟨rfl, E1164⟩
            ·
             refine t_skip rfl rfl rfl (t_pick_f rfl rfl rfl rfl (t_assign rfl rfl rfl (t_nil' (hK1144 _ _ (c_ret (f_ret1 (v := .bool false) Try.results12 rfl ?_))))))
             exfalso; omega
           ·
            refine t_skip rfl rfl rfl (t_skip rfl rfl rfl (t_skip rfl rfl rfl (t_skip rfl rfl rfl (t_skip rfl rfl rfl (t_pick_f rfl rfl rfl rfl (t_move rfl rfl rfl (t_skip rfl rfl rfl (t_pick_f rfl rfl rfl rfl (t_assign rfl rfl rfl (t_nil' (hK1144 _ _ (c_ret (f_ret1 (v := .bool false) Try.results12 rfl ?_)))))))))))))
            exfalso; omega
         ·
          refine t_skip rfl rfl rfl (t_skip rfl rfl rfl (t_skip rfl rfl rfl (t_skip rfl rfl rfl (t_skip rfl rfl rfl (t_pick_f rfl rfl rfl rfl (t_move rfl rfl rfl (t_skip rfl rfl rfl (t_skip rfl rfl rfl (t_skip rfl rfl rfl (t_skip rfl rfl rfl (t_skip rfl rfl rfl (t_pick_f rfl rfl rfl rfl (t_move rfl rfl rfl (t_skip rfl rfl rfl (t_pick_f rfl rfl rfl rfl (t_assign rfl rfl rfl (t_nil' (hK1144 _ _ (c_ret (f_ret1 (v := .bool false) Try.results12 rfl ?_))))))))))))))))))))
          exfalso; omega
       ·
        refine t_skip rfl rfl rfl (t_skip rfl rfl rfl (t_skip rfl rfl rfl (t_skip rfl rfl rfl (t_skip rfl rfl rfl (t_pick_f rfl rfl rfl rfl (t_assign rfl rfl rfl (t_nil' (hK1143 _ _ (c_seq fun K1165 hK1165 => (c_region (t_move rfl rfl rfl (t_move rfl rfl rfl (t_splitp 222 rfl (fun g222 => ?_) (fun g222 => ?_))))))))))))))
        ·
         refine t_same 7 (v := .bool true) rfl (congrArg Value.bool (decide_eq_true g222)) (t_skip rfl rfl rfl (t_skip rfl rfl rfl (t_pick_t rfl rfl rfl rfl (t_move rfl rfl rfl (t_move rfl rfl rfl (t_move rfl rfl rfl (t_move rfl rfl rfl (t_notp rfl rfl rfl (t_pick_f rfl rfl rfl rfl (t_pick_t rfl rfl rfl rfl (t_move rfl rfl rfl (t_splitp 233 rfl (fun g233 => ?_) (fun g233 => ?_)))))))))))))
         ·
          refine t_move rfl rfl rfl (t_move rfl rfl rfl (t_skip rfl rfl rfl (t_skip rfl rfl rfl (t_pick_t rfl rfl rfl rfl (t_pick_t rfl rfl rfl rfl (t_move rfl rfl rfl (t_call (vs := []) own16 rfl rfl rfl rfl (known_c _) (fun v1166 w1167 r1169 => ?_))))))))
          obtain ⟨rfl, u1168⟩ := r1169
          have zu1168 := u1168.size
          have E1170 := E1129.next u1168 (fun _ _ h => h.elim)
          refine t_pick_t rfl rfl rfl rfl (t_assign rfl rfl rfl (t_nil' (hK1165 _ _ (c_ret (f_ret1 (v := .bool true) Try.results12 rfl ?_)))))
          exact ⟨rfl, E1170⟩
         ·
          refine t_skip rfl rfl rfl (t_skip rfl rfl rfl (t_skip rfl rfl rfl (t_skip rfl rfl rfl (t_skip rfl rfl rfl (t_pick_f rfl rfl rfl rfl (t_move rfl rfl rfl (t_skip rfl rfl rfl (t_pick_f rfl rfl rfl rfl (t_assign rfl rfl rfl (t_nil' (hK1165 _ _ (c_ret (f_ret1 (v := .bool false) Try.results12 rfl ?_)))))))))))))
          exfalso; omega
        ·
         refine t_same 7 (v := .bool false) rfl (congrArg Value.bool (decide_eq_false g222)) (t_move rfl rfl rfl (t_not rfl rfl rfl (t_pick_f rfl rfl rfl rfl (t_move rfl rfl rfl (t_move rfl rfl rfl (t_move rfl rfl rfl (t_move rfl rfl rfl (t_notp rfl rfl rfl (t_pick_f rfl rfl rfl rfl (t_pick_t rfl rfl rfl rfl (t_move rfl rfl rfl (t_splitp 233 rfl (fun g233 => ?_) (fun g233 => ?_)))))))))))))
         ·
          refine t_move rfl rfl rfl (t_move rfl rfl rfl (t_move rfl rfl rfl (t_notp rfl rfl rfl (t_pick_f rfl rfl rfl rfl (t_pick_t rfl rfl rfl rfl (t_move rfl rfl rfl (t_splitp 240 rfl (fun g240 => ?_) (fun g240 => ?_))))))))
          ·
           refine t_call (vs := []) own16 rfl rfl rfl rfl (known_c _) (fun v1171 w1172 r1174 => ?_)
           obtain ⟨rfl, u1173⟩ := r1174
           have zu1173 := u1173.size
           have E1175 := E1129.next u1173 (fun _ _ h => h.elim)
           refine t_pick_t rfl rfl rfl rfl (t_assign rfl rfl rfl (t_nil' (hK1165 _ _ (c_ret (f_ret1 (v := .bool true) Try.results12 rfl ?_)))))
           exact ⟨rfl, E1175⟩
          ·
           refine t_skip rfl rfl rfl (t_pick_f rfl rfl rfl rfl (t_assign rfl rfl rfl (t_nil' (hK1165 _ _ (c_ret (f_ret1 (v := .bool false) Try.results12 rfl ?_))))))
           exfalso; omega
         ·
          refine t_skip rfl rfl rfl (t_skip rfl rfl rfl (t_skip rfl rfl rfl (t_skip rfl rfl rfl (t_skip rfl rfl rfl (t_pick_f rfl rfl rfl rfl (t_move rfl rfl rfl (t_skip rfl rfl rfl (t_pick_f rfl rfl rfl rfl (t_assign rfl rfl rfl (t_nil' (hK1165 _ _ (c_ret (f_ret1 (v := .bool false) Try.results12 rfl ?_)))))))))))))
          exfalso; omega

end Go.Proofs.Ytmicjleiheoieaa
