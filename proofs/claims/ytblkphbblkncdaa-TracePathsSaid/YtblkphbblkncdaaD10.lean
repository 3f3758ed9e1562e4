/-
  The law TracePaths: the walk. Conditions: none.
-/
import Derived.Test.YtblkphbblkncdaaD9
namespace Go.Proofs.Ytblkphbblkncdaa
open Go Go.RowKit

theorem rows4 {n : Nat} {S : Stt} (h : StOk fourB (fourH.map Hld.cap) n S) {rows : List RowL} (e : rows.map rowV = S.hold) : rows.length = 4 := by
  have h1 := h.hn
  rw [← e, List.length_map] at h1
  exact h1
theorem LaysR.old {w1 w w' : World} {S : Nat → Prop} {ao : Option Addr} {g : Nat} {xs : List HLay} (h1 : LaysR w1 ao g xs) (h : LaysR w ao g xs) (u : Upd S w w') (hS : ∀ k, k < w1.heap.size → ¬ S k) : LaysR w' ao g xs := ⟨h.1.keep u (fun hp => hS _ (h1.1.lt hp)), fun x hx => (h.2 x hx).keep u (fun hp => hS _ ((h1.2 x hx).lt hp))⟩
theorem LaysR.take {w : World} {ao : Option Addr} {g cap m : Nat} {xs : List HLay} (h : LaysR w ao g xs) (hc : xs.length ≤ cap) : LaysR w (subAddr ao cap 0 3) g (xs.take m) := ⟨Sl.subTo h.1 cap m hc, fun x hx => h.2 x (List.mem_of_mem_take hx)⟩
theorem four_cap : ∀ k : Nat, k < 4 → nth (fourH.map Hld.cap) k ≤ 2000 := by decide
theorem rowK {n : Nat} {S : Stt} (h : StOk fourB (fourH.map Hld.cap) n S) (hn : n ≤ 100) {rows : List RowL} (e : rows.map rowV = S.hold) {k : Nat} (hk : k < 4) :
    (nth rows k).xs.length ≤ 1000000 ∧ (∀ x ∈ (nth rows k).xs, 0 ≤ x.v.tons ∧ x.v.tons ≤ 1000000) ∧ (∀ x ∈ (nth rows k).xs, x.v.path.length ≤ 1000000) ∧ (nth rows k).xs.map HLay.v = nth S.hold k ∧ 0 ≤ sumT (nth S.hold k) ∧ sumT (nth S.hold k) ≤ 2000 := by
  have h4 := rows4 h e
  have e2 : (nth rows k).xs.map HLay.v = nth S.hold k := by rw [← e, nth_map rowV (by omega)]; rfl
  have hc := h.cap k hk
  have hc2 := four_cap k hk
  have ht : ∀ y ∈ nth S.hold k, LayOk n y := h.tons _ (nth_mem (by rw [h.hn]; exact hk))
  have hx : ∀ x ∈ (nth rows k).xs, LayOk n x.v := fun x hx => ht _ (by rw [← e2]; exact List.mem_map.2 ⟨x, hx, rfl⟩)
  have h5 := sumT_len (l := (nth rows k).xs.map HLay.v) (fun y hy => by rw [e2] at hy; exact (ht y hy).1)
  rw [List.length_map] at h5
  rw [e2] at h5 ⊢
  exact ⟨by omega, fun x h9 => by have := hx x h9; exact ⟨by have := this.1; omega, this.2.1⟩, fun x h9 => by have := (hx x h9).2.2; omega, rfl, by omega, by omega⟩
theorem landF {n : Nat} {S : Stt} (h : StOk fourB (fourH.map Hld.cap) n S) (hn : n ≤ 100) {i : Int} {ps : List Lay} (hf : findL S.landed i = some ps) {xs : List HLay} (e : xs.map HLay.v = ps) : xs.length ≤ 1000000 ∧ ∀ x ∈ xs, x.v.path.length ≤ 1000000 := by
  unfold findL at hf
  cases hq : S.landed.find? (fun x => decide (x.ev = i)) with
  | none => rw [hq] at hf; cases hf
  | some p =>
    rw [hq] at hf
    have e2 : p.parts = ps := Option.some.inj hf
    obtain ⟨a, b, _⟩ := h.ldt p (List.mem_of_find?_eq_some hq)
    have h5 := sumT_len (l := p.parts) (fun y hy => (a y hy).1)
    rw [e2, ← e, List.length_map] at h5
    rw [e2, ← e] at b
    exact ⟨by omega, fun x hx => by have := (a x.v (by rw [e2, ← e]; exact List.mem_map.2 ⟨x, hx, rfl⟩)).2.2; omega⟩
theorem sh_row {a b : List (List Lay)} {x : Ev} {ps : List Lay} (h : ShOk a b x ps) {rA rB rF : List HLay} (eA : rA.map HLay.v = nth a x.to.toNat) (eB : rB.map HLay.v = nth b x.to.toNat) (eF : rF.map HLay.v = nth a x.frm.toNat) :
    rB.length = rA.length + ps.length ∧ rA.map HLay.v = (rB.take rA.length).map HLay.v ∧ ps.length ≤ rF.length ∧ ∀ j, j < ps.length → (nth rB (rA.length + j)).v.bill = (nth rF (rF.length - 1 - j)).v.bill ∧ (nth rB (rA.length + j)).v.tons ≤ (nth rF (rF.length - 1 - j)).v.tons ∧ (j + 1 < ps.length → (nth rB (rA.length + j)).v.tons = (nth rF (rF.length - 1 - j)).v.tons) := by
  have e1 : rB.map HLay.v = rA.map HLay.v ++ ps := by rw [eB, h.app, eA]
  have l1 : rB.length = rA.length + ps.length := by have := congrArg List.length e1; simpa using this
  have l2 : (nth a x.frm.toNat).length = rF.length := by rw [← eF, List.length_map]
  refine ⟨l1, ?_, by rw [← l2]; exact h.len, fun j hj => ?_⟩
  · rw [List.map_take, e1, List.take_left' (List.length_map _)]
  · have ho := h.ord j hj
    have hlen := h.len
    rw [l2, ← eF] at ho
    rw [nth_map HLay.v (by omega)] at ho
    have e2 : (nth rB (rA.length + j)).v = nth ps j := by
      rw [← nth_map HLay.v (by omega), e1]
      simp [nth, List.getD_eq_getElem?_getD, List.getElem?_append_right]
    rw [e2]
    exact ho
theorem own7 : Own Try.prog 7 := ⟨Try.f7, Try.func7, by kernel_rfl, by kernel_rfl⟩

set_option maxHeartbeats 4000000 in
theorem TracePaths_c (xs : List X5) (a0 : Option Addr) (b0 o0 c0 : Nat) (cu : Int) (w0 : World) (hl : Sl encX5 5 w0 a0 b0 o0 xs) (hll : xs.length ≤ 9223372036854775807) (hxs : ∀ x ∈ xs, okX5 x) (hcu : 0 ≤ cu ∧ cu ≤ 255) :
    CallsV Try.prog 7 [.slice a0 xs.length c0, .int .u8 cu] w0 (fun v w' => v = .bool true ∧ Ext w0 w') := by
 refine f_enter (N := 366) Try.func7 rfl rfl rfl (c_seq fun K1 hK1 => (c_region (t_assign rfl rfl rfl (t_nil' (hK1 _ _ (c_seq fun K2 hK2 => (c_region (t_move rfl rfl rfl (t_call own31 rfl rfl rfl rfl (happened_c xs a0 b0 o0 c0 _ hl hll hxs) (fun v3 w4 r6 => ?_))))))))))
 obtain ⟨aoD, gD, cD, rfl, hdn, hdc, u5⟩ := r6
 have zu5 := u5.size
 have hdl : (done xs).length ≤ 30 := done_len
 have hz := done_ok (xs := xs)
 have hpo := sail_path hz
 refine t_move rfl rfl rfl (t_extract rfl rfl rfl rfl (t_extract rfl rfl rfl rfl (t_assign rfl rfl rfl (t_assign rfl rfl rfl (t_nil' (hK2 _ _ (c_seq fun K8 hK8 => (c_seq fun K9 hK9 => (c_region (t_move rfl rfl rfl (t_not rfl rfl rfl (t_nil' (hK9 _ _ (c_cond_f rfl (c_skip (hK8 _ _ (c_seq fun K10 hK10 => (c_region (t_call own32 rfl rfl rfl rfl (four_c _) (fun v13 w14 r16 => ?_))))))))))))))))))))
 obtain ⟨bfB11, bfH12, rfl, hkfB11, hkfH12, gbfB11, gbfH12, u15⟩ := r16
 have zu15 := u15.size
 have pfB11 := hkfB11.lt (by decide)
 refine t_alloc (cs := [.slice none 0 0, .slice none 0 0]) Try.zeroValue25 rfl rfl rfl (fun bk18 w19 ebk18 sbk18 B20 u21 => ?_)
 have zu21 := u21.size
 refine t_st (vs := [.slice (some ⟨bfB11, 0, none⟩) 4 4, .slice (some ⟨bfH12, 0, none⟩) 4 4]) Try.sizeOf25 rfl rfl rfl B20 rfl rfl rfl rfl (fun w23 sw23 B25 u24 => ?_)
 have zu24 := u24.size
 have B25 : Blk w23 bk18 25 [.slice (some ⟨bfB11, 0, none⟩) 4 4, .slice (some ⟨bfH12, 0, none⟩) 4 4] := B25
 refine t_nil' (hK10 _ _ (c_seq fun K27 hK27 => (c_drawnM follows (fun _ => False) (.look 0 (.look 1 (.act 2 (.act 3 (.look 4 (.look 5 (.look 6 (.look 7 (.look 8 (.look 9 (.look 10 .done))))))) .stop) .stop))) (by kernel_rfl) fun w28 u29 => ?_)))
 have zu29 := u29.size
 have B31 := (B25.kx u29)
 refine y_loadN (vs := [.slice (some ⟨bfB11, 0, none⟩) 4 4, .slice (some ⟨bfH12, 0, none⟩) 4 4]) Try.isAgg25 Try.sizeOf25 rfl rfl rfl (B31.at.sub 0 2) rfl (fun h => h) (y_move rfl rfl rfl (s_do ?_))
 have D33 := ((((hdn.keep u15 (fun _ h => h)).keep u21 (fun _ h => h)).keep u24 (fun hp => by have h9 := hdn.lt hp; show ¬ (gD = bk18); omega)).keep u29 (fun _ h => h))
 refine t_call own13 rfl rfl rfl rfl (eventsA_c (done xs) aoD gD 0 cD _ D33 (by first | omega | (simp only [List.length_append, List.length_singleton]; omega))) (fun v34 w35 r37 => ?_)
 obtain ⟨aoE32, gE32, cE32, baE32, rfl, hkE32, hbE32, hzE32, u36⟩ := r37
 have zu36 := u36.size
 have lt_gE32 := hkE32.lt
 refine s_next ((Upd.refl _ _).nx u36) (s_do ?_)
 have D39 := ((((hkfB11.keep u21 (fun _ h => h)).keep u24 (fun hp => by have h9 := hkfB11.lt hp; show ¬ (bfB11 = bk18); omega)).keep u29 (fun _ h => h)).keep u36 (fun _ h => h))
 have D40 := ((((hkfH12.keep u21 (fun _ h => h)).keep u24 (fun hp => by have h9 := hkfH12.lt hp; show ¬ (bfH12 = bk18); omega)).keep u29 (fun _ h => h)).keep u36 (fun _ h => h))
 refine t_call own15 rfl rfl rfl rfl (ReplayU_c fourB (some ⟨bfB11, 0, none⟩) bfB11 0 4 fourH (some ⟨bfH12, 0, none⟩) bfH12 0 4 (done xs) aoE32 gE32 0 cE32 _ D39 D40 (by decide) (by decide) (hkE32.sl (fun _ => rfl)) (by first | omega | (simp only [List.length_append, List.length_singleton]; omega)) (by omega)) (fun v41 w42 r44 => ?_)
 obtain ⟨⟨aoH, gH, cH, rowsH, rfl, hroH, hrlH, h1H, h2H, h3H⟩, u43⟩ := r44
 have zu43 := u43.size
 obtain ⟨_, hzr⟩ := h2H hz
 have h4H := rows4 (sail_ok hz) hzr
 refine s_next ((Upd.refl _ _).nx u43) (y_move rfl rfl rfl (y_extract rfl rfl rfl rfl (y_same 44 (v := .slice aoH 4 cH) rfl (by rw [h4H]) (y_extract rfl rfl rfl rfl (y_extract rfl rfl rfl rfl (y_same 46 (v := .int .i64 0) rfl (congrArg (Value.int .i64) hz) (y_assign rfl rfl rfl (y_assign rfl rfl rfl (y_assign rfl rfl rfl (s_nil (hK27 _ _ (c_seq fun K46 hK46 => (c_seq fun K47 hK47 => (c_region (t_move rfl rfl rfl (t_cmp rfl rfl rfl rfl rfl (t_samehd (v := .bool false) rfl (t_move rfl rfl rfl (t_move rfl rfl rfl (t_len Try.underlying33 rfl rfl rfl rfl (t_cmp rfl rfl rfl rfl rfl (t_samehd (v := .bool false) rfl (t_pick_f rfl rfl rfl rfl ?_)))))))))))))))))))))))
 refine t_nil' (hK47 _ _ (c_cond_f rfl (c_skip (hK46 _ _ (c_seq fun K48 hK48 => (c_seq fun K49 hK49 => (c_region (t_assign rfl rfl rfl (t_nil' (hK49 _ _ (c_block (c_loop (γ := Nat) (fun i => [(1, .int .u8 cu), (5, .slice aoD ((done xs).length) cD), (7, .pointer (some ⟨bk18, 0, none⟩)), (8, .slice aoH 4 cH), (11, .int .i64 (i : Int))]) (fun i w => Upd (fun _ => False) w42 w ∧ (i ≤ 4)) (fun i => 4 - i) 0 ⟨rfl, rfl, rfl, rfl, rfl, trivial⟩ ⟨Upd.refl _ _, (Nat.zero_le _)⟩ ?_))))))))))))
 intro i w51 hW K50 hK50
 obtain ⟨u52, I53⟩ := hW
 have zu52 := u52.size
 have hi := I53; clear I53
 refine c_seq fun K55 hK55 => (c_seq fun K56 hK56 => (c_region (t_move rfl rfl rfl (t_cmp rfl rfl rfl rfl rfl (t_nil' (hK56 _ _ (c_condp rfl (fun g55 => ?_) (fun g55 => ?_))))))))
 ·
  refine c_skip (hK55 _ _ (c_seq fun K57 hK57 => (c_block (c_seq fun K58 hK58 => (c_region (t_assign rfl rfl rfl (t_nil' (hK58 _ _ (c_block (c_loop (γ := Nat) (fun k => [(1, .int .u8 cu), (5, .slice aoD ((done xs).length) cD), (7, .pointer (some ⟨bk18, 0, none⟩)), (8, .slice aoH 4 cH), (11, .int .i64 (i : Int)), (12, .int .i64 (k : Int))]) (fun k w => Upd (fun _ => False) w51 w ∧ (k ≤ (nth rowsH i).xs.length)) (fun k => (nth rowsH i).xs.length - k) 0 ⟨rfl, rfl, rfl, rfl, rfl, rfl, trivial⟩ ⟨Upd.refl _ _, (Nat.zero_le _)⟩ ?_))))))))))
  intro k w60 hW K59 hK59
  obtain ⟨u61, I62⟩ := hW
  have zu61 := u61.size
  have hk := I62; clear I62
  have hkr := (rowK (sail_ok hz) (by omega) hzr (k := i) (by omega)).1
  refine c_seq fun K64 hK64 => (c_seq fun K65 hK65 => (c_region (t_move rfl rfl rfl (t_move rfl rfl rfl (t_move rfl rfl rfl ?_)))))
  have D66 := ((hroH.keep u52 (fun _ h => h)).keep u61 (fun _ h => h))
  have i67 : i < rowsH.length := (by omega)
  refine t_index (j := i) Try.underlying33 Try.sizeOf36 rfl rfl rfl rfl (D66.addr (by omega)) rfl (by omega) (t_load Try.isAgg36 rfl rfl rfl ((D66.at_ i (by omega)) 0 _ rfl) (t_len Try.underlying36 rfl rfl rfl rfl (t_cmp rfl rfl rfl rfl rfl (t_nil' (hK65 _ _ (c_condp rfl (fun g64 => ?_) (fun g64 => ?_)))))))
  ·
   refine c_skip (hK64 _ _ (c_seq fun K68 hK68 => (c_block (c_seq fun K69 hK69 => (c_region (t_move rfl rfl rfl (t_move rfl rfl rfl (t_move rfl rfl rfl ?_))))))))
   have i70 : i < rowsH.length := (by omega)
   refine t_index (j := i) Try.underlying33 Try.sizeOf36 rfl rfl rfl rfl (D66.addr (by omega)) rfl (by omega) (t_load Try.isAgg36 rfl rfl rfl ((D66.at_ i (by omega)) 0 _ rfl) (t_move rfl rfl rfl ?_))
   have D71 := (fun r hr => LaysR.keep ((fun r hr => LaysR.keep (hrlH r hr) u52 (fun _ _ h => h)) r hr) u61 (fun _ _ h => h))
   have i72 : k < (nth rowsH i).xs.length := (by omega)
   refine t_index (j := k) Try.underlying36 Try.sizeOf97 rfl rfl rfl rfl ((D71 (nth rowsH i) (nth_mem (by omega))).1.addr (by omega)) rfl i72 (t_loadN (vs := [.int .i64 ((nth ((nth rowsH i).xs) k).v.bill), .int .i64 ((nth ((nth rowsH i).xs) k).v.tons), .slice ((nth ((nth rowsH i).xs) k).ao) (((nth ((nth rowsH i).xs) k).v.path).length) ((nth ((nth rowsH i).xs) k).cap)]) Try.isAgg97 Try.sizeOf97 rfl rfl rfl (((D71 (nth rowsH i) (nth_mem (by omega))).1.at_ k (by omega)).sub 0 3) rfl (t_move rfl rfl rfl ?_))
   have D73 := ((((D33.keep u36 (fun _ h => h)).keep u43 (fun _ h => h)).keep u52 (fun _ h => h)).keep u61 (fun _ h => h))
   refine t_call own34 rfl rfl rfl rfl (goes_c (done xs) aoD gD 0 cD (nth ((nth rowsH i).xs) k) (i : Int) _ D73 (by omega) ((D71 (nth rowsH i) (nth_mem (by omega))).2 (nth ((nth rowsH i).xs) k) (nth_mem (by omega))) ((rowK (sail_ok hz) (by omega) hzr (by omega)).2.2.1 (nth ((nth rowsH i).xs) k) (nth_mem (by omega))) (row_goes hpo hzr (by omega) (by omega))) (fun v74 w75 r77 => ?_)
   obtain ⟨rfl, u76⟩ := r77
   have zu76 := u76.size
   refine t_not rfl rfl rfl (t_nil' (hK69 _ _ (c_cond_f rfl (c_skip (hK68 _ _ (c_region (t_move rfl rfl rfl (t_ari rfl rfl rfl rfl rfl (by omega) (t_assign rfl rfl rfl (t_nil' ?_))))))))))
   exact hK59 (k + 1) _ _ (by omega) ⟨rfl, rfl, rfl, rfl, rfl, rfl, trivial⟩ ⟨(u61.next u76 (fun _ _ h => h.elim)), (by omega)⟩
  refine c_exit (hK57 _ _ (c_region (t_move rfl rfl rfl (t_ari rfl rfl rfl rfl rfl (by omega) (t_assign rfl rfl rfl (t_nil' ?_))))))
  exact hK50 (i + 1) _ _ (by omega) ⟨rfl, rfl, rfl, rfl, rfl, trivial⟩ ⟨(u52.next u61 (fun _ _ h => h.elim)), (by omega)⟩
 refine c_exit (hK48 _ _ (c_seq fun K79 hK79 => (c_region (t_move rfl rfl rfl (t_conv Try.underlying5 Try.underlying3 rfl rfl rfl (IntWalk.i64_in _ (by omega)) (t_move rfl rfl rfl (t_len Try.underlying26 rfl rfl rfl rfl (t_ari rfl rfl rfl rfl rfl (by omega) (t_rem rfl rfl rfl rfl (by omega) (by omega) ?_)))))))))
 have hm1 := Int.emod_nonneg cu (show (((done xs).length : Int) + 1) ≠ 0 by omega)
 have hm2 := Int.emod_lt_of_pos cu (show 0 < (((done xs).length : Int) + 1) by omega)
 obtain ⟨n, hn⟩ : ∃ n : Nat, (cu % (((done xs).length : Int) + 1)) = (n : Int) := ⟨((cu % (((done xs).length : Int) + 1))).toNat, by omega⟩
 have hnl : n ≤ (done xs).length := by omega
 have hnt : ((done xs).take n).length = n := by rw [List.length_take]; omega
 have hnu : ((done xs).take (n - 1)).length = n - 1 := by rw [List.length_take]; omega
 refine t_same 83 (v := .int .i64 (n : Int)) rfl (congrArg (Value.int .i64) hn) (t_assign rfl rfl rfl (t_nil' (hK79 _ _ (c_seq fun K80 hK80 => (c_seq fun K81 hK81 => (c_region (t_assign rfl rfl rfl (t_nil' (hK81 _ _ (c_block (c_loop (γ := Nat) (fun i2 => [(5, .slice aoD ((done xs).length) cD), (7, .pointer (some ⟨bk18, 0, none⟩)), (13, .int .i64 (n : Int)), (14, .int .i64 (i2 : Int))]) (fun i2 w => Upd (fun _ => False) w51 w ∧ (i2 ≤ (done xs).length)) (fun i2 => (done xs).length - i2) 0 ⟨rfl, rfl, rfl, rfl, trivial⟩ ⟨Upd.refl _ _, (Nat.zero_le _)⟩ ?_)))))))))))
 intro i2 w83 hW K82 hK82
 obtain ⟨u84, I85⟩ := hW
 have zu84 := u84.size
 have E86 := (((((((((Upd.refl (fun _ => False) w0).nx u5).nx u15).nx u21).next u24 (fun i hi h => by omega)).nx u29).nx u36).nx u43).nx u52).nx u84
 have hi2 := I85; clear I85
 refine c_seq fun K87 hK87 => (c_seq fun K88 hK88 => (c_region (t_move rfl rfl rfl (t_move rfl rfl rfl (t_len Try.underlying26 rfl rfl rfl rfl (t_cmp rfl rfl rfl rfl rfl (t_nil' (hK88 _ _ (c_condp rfl (fun g87 => ?_) (fun g87 => ?_))))))))))
 ·
  refine c_skip (hK87 _ _ (c_seq fun K89 hK89 => (c_block (c_seq fun K90 hK90 => (c_seq fun K91 hK91 => (c_region (t_move rfl rfl rfl (t_move rfl rfl rfl ?_))))))))
  have D92 := ((((D33.keep u36 (fun _ h => h)).keep u43 (fun _ h => h)).keep u52 (fun _ h => h)).keep u84 (fun _ h => h))
  have i93 : i2 < (done xs).length := (by omega)
  refine t_index (j := i2) Try.underlying26 Try.sizeOf41 rfl rfl rfl rfl (D92.addr (by omega)) rfl i93 (t_field Try.underlying41 rfl Try.sizeOf39 (0 + i2 * 8 + 0) rfl rfl rfl rfl (t_load Try.isAgg39 rfl rfl rfl ((D92.at_ i2 (by omega)) 0 _ rfl) (t_cmp rfl rfl rfl rfl rfl (t_nil' (hK91 _ _ (c_condp rfl (fun g95 => ?_) (fun g95 => ?_)))))))
  ·
   refine c_exit (hK89 _ _ (c_region (t_move rfl rfl rfl (t_ari rfl rfl rfl rfl rfl (by omega) (t_assign rfl rfl rfl (t_nil' ?_))))))
   exact hK82 (i2 + 1) _ _ (by omega) ⟨rfl, rfl, rfl, rfl, trivial⟩ ⟨u84, (by omega)⟩
  refine c_skip (hK90 _ _ (c_seq fun K94 hK94 => (c_drawnM follows (fun _ => False) (.look 0 (.look 1 (.look 3 (.act 2 (.act 4 (.look 5 (.look 6 (.look 7 (.look 8 (.look 9 (.look 10 (.look 11 .done))))))) .stop) .stop)))) (by kernel_rfl) fun w95 u96 => ?_)))
  have zu96 := u96.size
  have B98 := ((((((B25.kx u29).kx u36).kx u43).kx u52).kx u84).kx u96)
  refine y_loadN (vs := [.slice (some ⟨bfB11, 0, none⟩) 4 4, .slice (some ⟨bfH12, 0, none⟩) 4 4]) Try.isAgg25 Try.sizeOf25 rfl rfl rfl (B98.at.sub 0 2) rfl (fun h => h) (y_move rfl rfl rfl (y_move rfl rfl rfl (s_do ?_)))
  have D100 := (D92.keep u96 (fun _ h => h))
  refine t_call own13 rfl rfl rfl rfl (eventsA_c (done xs) aoD gD 0 cD _ D100 (by first | omega | (simp only [List.length_append, List.length_singleton]; omega))) (fun v101 w102 r104 => ?_)
  obtain ⟨aoE99, gE99, cE99, baE99, rfl, hkE99, hbE99, hzE99, u103⟩ := r104
  have zu103 := u103.size
  have lt_gE99 := hkE99.lt
  refine s_next ((Upd.refl _ _).nx u103) (s_do ?_)
  have D106 := (((((D39.keep u43 (fun _ h => h)).keep u52 (fun _ h => h)).keep u84 (fun _ h => h)).keep u96 (fun _ h => h)).keep u103 (fun _ h => h))
  have D107 := (((((D40.keep u43 (fun _ h => h)).keep u52 (fun _ h => h)).keep u84 (fun _ h => h)).keep u96 (fun _ h => h)).keep u103 (fun _ h => h))
  refine t_call own16 rfl rfl rfl rfl (LandedU_c fourB (some ⟨bfB11, 0, none⟩) bfB11 0 4 fourH (some ⟨bfH12, 0, none⟩) bfH12 0 4 (done xs) aoE99 gE99 0 cE99 (i2 : Int) _ D106 D107 (by decide) (by decide) (hkE99.sl (fun _ => rfl)) (by first | omega | (simp only [List.length_append, List.length_singleton]; omega)) (by omega)) (fun v108 w109 r111 => ?_)
  obtain ⟨⟨aoL, gL, cL, xsL, eL, rfl, hplL, h1L, h2L⟩, u110⟩ := r111
  have zu110 := u110.size
  have hkd : (nth (done xs) i2).kind = 3 := Decidable.not_not.1 g95
  obtain ⟨ps, hf1, hf2⟩ := find_all hpo (i := i2) (by omega) hkd
  obtain ⟨hps, he0⟩ : xsL.map HLay.v = ps ∧ eL = 0 := by
    rcases h2L hz with ⟨a, _⟩ | ⟨a, b⟩
    · exact absurd (a.symm.trans hf1) (by simp)
    · exact ⟨Option.some.inj (a.symm.trans hf1), b⟩
  have hlF := landF (sail_ok hz) (by omega) hf1 hps
  refine s_next ((Upd.refl _ _).nx u110) (y_move rfl rfl rfl (y_extract rfl rfl rfl rfl (y_extract rfl rfl rfl rfl (y_extract rfl rfl rfl rfl (y_same 104 (v := .int .i64 0) rfl (congrArg (Value.int .i64) he0) (y_assign rfl rfl rfl (y_assign rfl rfl rfl (y_assign rfl rfl rfl (s_nil (hK94 _ _ (c_seq fun K113 hK113 => (c_seq fun K114 hK114 => (c_region (t_move rfl rfl rfl (t_cmp rfl rfl rfl rfl rfl (t_samehd (v := .bool false) rfl (t_nil' (hK114 _ _ (c_cond_f rfl (c_skip (hK113 _ _ (c_seq fun K115 hK115 => (c_seq fun K116 hK116 => ?_)))))))))))))))))))))))
  refine c_region (t_assign rfl rfl rfl (t_nil' (hK116 _ _ (c_block (c_loop (γ := Nat) (fun k3 => [(5, .slice aoD ((done xs).length) cD), (7, .pointer (some ⟨bk18, 0, none⟩)), (13, .int .i64 (n : Int)), (14, .int .i64 (i2 : Int)), (15, .slice aoL xsL.length cL), (18, .int .i64 (k3 : Int))]) (fun k3 w => Upd (fun _ => False) w109 w ∧ (k3 ≤ xsL.length)) (fun k3 => xsL.length - k3) 0 ⟨rfl, rfl, rfl, rfl, rfl, rfl, trivial⟩ ⟨Upd.refl _ _, (Nat.zero_le _)⟩ ?_)))))
  intro k3 w118 hW K117 hK117
  obtain ⟨u119, I120⟩ := hW
  have zu119 := u119.size
  have hk3 := I120; clear I120
  refine c_seq fun K122 hK122 => (c_seq fun K123 hK123 => (c_region (t_move rfl rfl rfl (t_move rfl rfl rfl (t_len Try.underlying36 rfl rfl rfl rfl (t_cmp rfl rfl rfl rfl rfl (t_nil' (hK123 _ _ (c_condp rfl (fun g110 => ?_) (fun g110 => ?_))))))))))
  ·
   refine c_skip (hK122 _ _ (c_seq fun K124 hK124 => (c_block (c_seq fun K125 hK125 => ?_))))
   have hgk := (hf2 _ (by rw [← hps]; exact List.mem_map.2 ⟨nth xsL k3, nth_mem (by omega), rfl⟩)).1
   have hgn := hgk.ne
   have hgl := hlF.2 _ (nth_mem (xs := xsL) (i := k3) (by omega))
   refine c_drawnM follows (fun _ => False) (.look 0 (.look 1 (.look 2 (.look 3 (.look 4 (.act 5 (.look 6 (.look 7 (.look 8 (.look 9 (.look 10 (.look 11 (.look 12 (.look 13 (.look 14 (.look 15 (.look 16 (.look 17 (.look 18 (.look 19 (.look 20 (.look 21 (.look 22 (.look 23 (.look 24 .done))))))))))))))))))) .stop)))))) (by kernel_rfl) fun w126 u127 => ?_
   have zu127 := u127.size
   refine y_move rfl rfl rfl (y_move rfl rfl rfl (y_move rfl rfl rfl ?_))
   have D129 := (LaysR.keep (LaysR.keep hplL u119 (fun _ _ h => h)) u127 (fun _ _ h => h))
   have i130 : k3 < xsL.length := (by omega)
   refine y_index (j := k3) Try.underlying36 Try.sizeOf97 rfl rfl rfl rfl ((D129).1.addr (by omega)) rfl i130 ?_
   have D131 := (LaysR.keep (LaysR.keep hplL u119 (fun _ _ h => h)) u127 (fun _ _ h => h))
   refine y_loadN (vs := [.int .i64 ((nth xsL k3).v.bill), .int .i64 ((nth xsL k3).v.tons), .slice ((nth xsL k3).ao) (((nth xsL k3).v.path).length) ((nth xsL k3).cap)]) Try.isAgg97 Try.sizeOf97 rfl rfl rfl (((D131).1.at_ k3 (by omega)).sub 0 3) rfl (fun h => h) (s_do ?_)
   have D132 := ((((D100.keep u103 (fun _ h => h)).keep u110 (fun _ h => h)).keep u119 (fun _ h => h)).keep u127 (fun _ h => h))
   refine t_call own34 rfl rfl rfl rfl (goes_c (done xs) aoD gD 0 cD (nth xsL k3) (-1) _ D132 (by omega) ((D129).2 (nth xsL k3) (nth_mem (by omega))) (hlF.2 (nth xsL k3) (nth_mem (by omega))) (hf2 _ (by rw [← hps]; exact List.mem_map.2 ⟨(nth xsL k3), nth_mem (by omega), rfl⟩)).1) (fun v133 w134 r136 => ?_)
   obtain ⟨rfl, u135⟩ := r136
   have zu135 := u135.size
   refine s_next ((Upd.refl _ _).nx u135) (y_not rfl rfl rfl (y_move rfl rfl rfl (y_move rfl rfl rfl (y_move rfl rfl rfl ?_))))
   have D138 := (LaysR.keep D129 u135 (fun _ _ h => h))
   have i139 : k3 < xsL.length := (by omega)
   refine y_index (j := k3) Try.underlying36 Try.sizeOf97 rfl rfl rfl rfl ((D138).1.addr (by omega)) rfl i139 (y_field Try.underlying97 rfl Try.sizeOf45 (0 + k3 * 3 + 2) rfl rfl rfl rfl (y_load Try.isAgg45 rfl rfl rfl (((D131).1.at_ k3 (by omega)) 2 _ rfl) (fun h => h) (y_move rfl rfl rfl (y_move rfl rfl rfl ?_))))
   have i140 : k3 < xsL.length := (by omega)
   refine y_index (j := k3) Try.underlying36 Try.sizeOf97 rfl rfl rfl rfl ((D138).1.addr (by omega)) rfl i140 (y_field Try.underlying97 rfl Try.sizeOf45 (0 + k3 * 3 + 2) rfl rfl rfl rfl (y_load Try.isAgg45 rfl rfl rfl (((D131).1.at_ k3 (by omega)) 2 _ rfl) (fun h => h) (y_len Try.underlying45 rfl rfl rfl rfl (y_ari rfl rfl rfl rfl rfl (by omega) ?_))))
   have i141 : ((nth xsL k3).v.path.length - 1) < (nth xsL k3).v.path.length := (by omega)
   refine y_index (j := ((nth xsL k3).v.path.length - 1)) Try.underlying45 Try.sizeOf3 rfl rfl rfl rfl (((D138).2 (nth xsL k3) (nth_mem (by omega))).addr (by omega)) (by omega) i141 (y_load Try.isAgg3 rfl rfl rfl ((((D131).2 (nth xsL k3) (nth_mem (by omega))).at_ ((nth xsL k3).v.path.length - 1) (by omega)) 0 _ rfl) (fun h => h) (y_move rfl rfl rfl (y_cmp rfl rfl rfl rfl rfl (y_same 136 (v := .bool false) rfl (congrArg Value.bool (decide_eq_false (fun h => h (hf2 _ (by rw [← hps]; exact List.mem_map.2 ⟨nth xsL k3, nth_mem (by omega), rfl⟩)).2))) (y_pick_f rfl rfl rfl rfl (s_nil (hK125 _ _ (c_cond_f rfl (c_skip (hK124 _ _ (c_region (t_move rfl rfl rfl (t_ari rfl rfl rfl rfl rfl (by omega) (t_assign rfl rfl rfl (t_nil' ?_)))))))))))))))
   exact hK117 (k3 + 1) _ _ (by omega) ⟨rfl, rfl, rfl, rfl, rfl, rfl, trivial⟩ ⟨((u119.next u127 (fun _ _ h => h.elim)).next u135 (fun _ _ h => h.elim)), (by omega)⟩
  refine c_exit (hK115 _ _ (c_seq fun K142 hK142 => (c_drawnM follows (fun _ => False) (.look 0 (.look 1 (.look 2 (.look 3 (.look 5 (.act 4 (.act 6 (.look 7 (.look 8 (.look 9 (.look 10 (.look 11 (.look 12 (.look 13 .done))))))) .stop) .stop)))))) (by kernel_rfl) fun w143 u144 => ?_)))
  have zu144 := u144.size
  have B146 := ((((((((((B25.kx u29).kx u36).kx u43).kx u52).kx u84).kx u96).kx u103).kx u110).kx u119).kx u144)
  refine y_loadN (vs := [.slice (some ⟨bfB11, 0, none⟩) 4 4, .slice (some ⟨bfH12, 0, none⟩) 4 4]) Try.isAgg25 Try.sizeOf25 rfl rfl rfl (B146.at.sub 0 2) rfl (fun h => h) (y_move rfl rfl rfl (y_move rfl rfl rfl ?_))
  have D147 := ((((D100.keep u103 (fun _ h => h)).keep u110 (fun _ h => h)).keep u119 (fun _ h => h)).keep u144 (fun _ h => h))
  refine y_sliceTo (n) Try.underlying26 Try.sizeOf41 rfl rfl rfl rfl (by omega) (by omega) (y_same 142 (v := .slice (subAddr aoD cD 0 8) (((done xs).take n).length) cD) rfl (by rw [hnt]) (y_move rfl rfl rfl (s_do (t_call own13 rfl rfl rfl rfl (eventsA_c (((done xs)).take n) (subAddr aoD cD 0 8) gD 0 cD _ (Sl.subTo D147 cD n (by omega)) (by first | omega | (simp only [List.length_append, List.length_singleton]; omega))) (fun v149 w150 r152 => ?_)))))
  obtain ⟨aoE148, gE148, cE148, baE148, rfl, hkE148, hbE148, hzE148, u151⟩ := r152
  have zu151 := u151.size
  have lt_gE148 := hkE148.lt
  refine s_next ((Upd.refl _ _).nx u151) (s_do ?_)
  have D154 := ((((D106.keep u110 (fun _ h => h)).keep u119 (fun _ h => h)).keep u144 (fun _ h => h)).keep u151 (fun _ h => h))
  have D155 := ((((D107.keep u110 (fun _ h => h)).keep u119 (fun _ h => h)).keep u144 (fun _ h => h)).keep u151 (fun _ h => h))
  refine t_call own16 rfl rfl rfl rfl (LandedU_c fourB (some ⟨bfB11, 0, none⟩) bfB11 0 4 fourH (some ⟨bfH12, 0, none⟩) bfH12 0 4 (((done xs)).take n) aoE148 gE148 0 cE148 (i2 : Int) _ D154 D155 (by decide) (by decide) (hkE148.sl (fun _ => rfl)) (by first | omega | (simp only [List.length_append, List.length_singleton]; omega)) (by omega)) (fun v156 w157 r159 => ?_)
  obtain ⟨⟨aoM, gM, cM, xsM, eM, rfl, hplM, h1M, h2M⟩, u158⟩ := r159
  have zu158 := u158.size
  have hzn := (sail_take hz n).1
  have hM := h2M hzn
  refine s_next ((Upd.refl _ _).nx u158) (y_move rfl rfl rfl (y_extract rfl rfl rfl rfl (y_extract rfl rfl rfl rfl (y_extract rfl rfl rfl rfl (y_assign rfl rfl rfl (y_assign rfl rfl rfl (y_assign rfl rfl rfl (s_nil (hK142 _ _ (c_seq fun K161 hK161 => (c_region (t_move rfl rfl rfl (t_move rfl rfl rfl (t_cmp rfl rfl rfl rfl rfl (t_move rfl rfl rfl (t_splitp 152 rfl (fun g152 => ?_) (fun g152 => ?_)))))))))))))))))
  ·
   have hpm0 := land_pre hz (n := n) (i := i2) (by omega) hnl hkd hf1
   obtain ⟨hpm, hem⟩ : xsM.map HLay.v = ps ∧ eM = 0 := by
     rcases hM with ⟨a, _⟩ | ⟨a, b⟩
     · exact absurd (a.symm.trans hpm0) (by simp)
     · exact ⟨Option.some.inj (a.symm.trans hpm0), b⟩
   refine t_same 17 (v := .int .i64 0) rfl (congrArg (Value.int .i64) hem) (t_move rfl rfl rfl (t_cmp rfl rfl rfl rfl rfl (t_samehd (v := .bool false) rfl (t_move rfl rfl rfl (t_move rfl rfl rfl (t_move rfl rfl rfl ?_))))))
   have D162 := (LaysR.keep (LaysR.keep (LaysR.keep (LaysR.keep hplL u119 (fun _ _ h => h)) u144 (fun _ _ h => h)) u151 (fun _ _ h => h)) u158 (fun _ _ h => h))
   refine t_call own20 rfl rfl rfl rfl (layers_c xsL xsM aoL aoM gL gM cL cM _ D162 hplM hlF.1 hlF.2) (fun v163 w164 r166 => ?_)
   obtain ⟨rfl, u165⟩ := r166
   have zu165 := u165.size
   refine t_same 158 (v := .bool true) rfl (congrArg Value.bool (decide_eq_true (hps.trans hpm.symm))) (t_not rfl rfl rfl (t_pick_f rfl rfl rfl rfl (t_pick_t rfl rfl rfl rfl (t_move rfl rfl rfl (t_move rfl rfl rfl (t_move rfl rfl rfl (t_cmp rfl rfl rfl rfl rfl (t_move rfl rfl rfl (t_splitp 166 rfl (fun g166 => ?_) (fun g166 => ?_))))))))))
   ·
    exfalso; omega
   refine t_skip rfl rfl rfl (t_skip rfl rfl rfl (t_skip rfl rfl rfl (t_skip rfl rfl rfl (t_skip rfl rfl rfl (t_skip rfl rfl rfl (t_skip rfl rfl rfl (t_pick_f rfl rfl rfl rfl (t_pick_f rfl rfl rfl rfl (t_nil' (hK161 _ _ (c_cond_f rfl (c_skip (hK89 _ _ (c_region (t_move rfl rfl rfl (t_ari rfl rfl rfl rfl rfl (by omega) (t_assign rfl rfl rfl (t_nil' ?_))))))))))))))))))
   exact hK82 (i2 + 1) _ _ (by omega) ⟨rfl, rfl, rfl, rfl, trivial⟩ ⟨((((((((u84.next u96 (fun _ _ h => h.elim)).next u103 (fun _ _ h => h.elim)).next u110 (fun _ _ h => h.elim)).next u119 (fun _ _ h => h.elim)).next u144 (fun _ _ h => h.elim)).next u151 (fun _ _ h => h.elim)).next u158 (fun _ _ h => h.elim)).next u165 (fun _ _ h => h.elim)), (by omega)⟩
  have hpm0 := land_none hz (n := n) (i := i2) (by omega)
  obtain ⟨hem, hxm⟩ : eM = 7 ∧ xsM = [] := by
    rcases hM with ⟨_, a⟩ | ⟨a, _⟩
    · exact a
    · exact absurd (a.symm.trans hpm0) (by simp)
  refine t_same 17 (v := .int .i64 7) rfl (congrArg (Value.int .i64) hem) (t_same 19 (v := .slice aoM 0 cM) rfl (by rw [hxm]; rfl) (t_skip rfl rfl rfl (t_skip rfl rfl rfl (t_skip rfl rfl rfl (t_skip rfl rfl rfl (t_skip rfl rfl rfl (t_skip rfl rfl rfl (t_skip rfl rfl rfl (t_skip rfl rfl rfl (t_pick_f rfl rfl rfl rfl (t_move rfl rfl rfl (t_move rfl rfl rfl (t_move rfl rfl rfl (t_cmp rfl rfl rfl rfl rfl (t_move rfl rfl rfl (t_splitp 166 rfl (fun g166 => ?_) (fun g166 => ?_)))))))))))))))))
  ·
   refine t_move rfl rfl rfl (t_cmp rfl rfl rfl rfl rfl (t_samehd (v := .bool false) rfl (t_move rfl rfl rfl (t_move rfl rfl rfl (t_len Try.underlying36 rfl rfl rfl rfl (t_cmp rfl rfl rfl rfl rfl (t_samehd (v := .bool false) rfl (t_pick_f rfl rfl rfl rfl (t_pick_t rfl rfl rfl rfl (t_pick_f rfl rfl rfl rfl (t_nil' (hK161 _ _ (c_cond_f rfl (c_skip (hK89 _ _ (c_region (t_move rfl rfl rfl (t_ari rfl rfl rfl rfl rfl (by omega) (t_assign rfl rfl rfl (t_nil' ?_))))))))))))))))))))
   exact hK82 (i2 + 1) _ _ (by omega) ⟨rfl, rfl, rfl, rfl, trivial⟩ ⟨(((((((u84.next u96 (fun _ _ h => h.elim)).next u103 (fun _ _ h => h.elim)).next u110 (fun _ _ h => h.elim)).next u119 (fun _ _ h => h.elim)).next u144 (fun _ _ h => h.elim)).next u151 (fun _ _ h => h.elim)).next u158 (fun _ _ h => h.elim)), (by omega)⟩
  exfalso; omega
 refine c_exit (hK80 _ _ (c_seq fun K168 hK168 => (c_seq fun K169 hK169 => (c_region (t_move rfl rfl rfl (t_cmp rfl rfl rfl rfl rfl (t_move rfl rfl rfl (t_splitp 178 rfl (fun g178 => ?_) (fun g178 => ?_)))))))))
 ·
  refine t_skip rfl rfl rfl (t_skip rfl rfl rfl (t_skip rfl rfl rfl (t_skip rfl rfl rfl (t_skip rfl rfl rfl (t_skip rfl rfl rfl (t_skip rfl rfl rfl (t_pick_t rfl rfl rfl rfl (t_nil' (hK169 _ _ (c_cond_t rfl (c_seq fun K170 hK170 => (c_region (t_call own11 rfl rfl rfl rfl (known_c _) (fun v171 w172 r174 => ?_))))))))))))))
  obtain ⟨rfl, u173⟩ := r174
  have zu173 := u173.size
  refine t_assign rfl rfl rfl (t_nil' (hK170 _ _ (c_ret (f_ret1 (v := .bool true) Try.results7 rfl ?_))))
  exact ⟨rfl, (E86.nx u173)⟩
 refine t_move rfl rfl rfl (t_move rfl rfl rfl (t_ari rfl rfl rfl rfl rfl (by omega) ?_))
 have D176 := ((((D33.keep u36 (fun _ h => h)).keep u43 (fun _ h => h)).keep u52 (fun _ h => h)).keep u84 (fun _ h => h))
 have i177 : (n - 1) < (done xs).length := (by omega)
 refine t_index (j := (n - 1)) Try.underlying26 Try.sizeOf41 rfl rfl rfl rfl (D176.addr (by omega)) (by omega) i177 (t_field Try.underlying41 rfl Try.sizeOf39 (0 + (n - 1) * 8 + 0) rfl rfl rfl rfl (t_load Try.isAgg39 rfl rfl rfl ((D176.at_ (n - 1) (by omega)) 0 _ rfl) (t_cmp rfl rfl rfl rfl rfl (t_pick_f rfl rfl rfl rfl (t_nil' (hK169 _ _ (c_condp rfl (fun g186 => ?_) (fun g186 => ?_))))))))
 ·
  refine c_seq fun K178 hK178 => (c_region (t_call own11 rfl rfl rfl rfl (known_c _) (fun v179 w180 r182 => ?_)))
  obtain ⟨rfl, u181⟩ := r182
  have zu181 := u181.size
  refine t_assign rfl rfl rfl (t_nil' (hK178 _ _ (c_ret (f_ret1 (v := .bool true) Try.results7 rfl ?_))))
  exact ⟨rfl, (E86.nx u181)⟩
 have hk2 : (nth (done xs) (n - 1)).kind = 2 := Decidable.not_not.1 g186
 refine c_skip (hK168 _ _ (c_seq fun K184 hK184 => (c_region (t_move rfl rfl rfl (t_move rfl rfl rfl (t_ari rfl rfl rfl rfl rfl (by omega) ?_))))))
 have i185 : (n - 1) < (done xs).length := (by omega)
 refine t_index (j := (n - 1)) Try.underlying26 Try.sizeOf41 rfl rfl rfl rfl (D176.addr (by omega)) (by omega) i185 (t_loadN (vs := [.int .i64 ((nth (done xs) (n - 1)).kind), .int .i64 ((nth (done xs) (n - 1)).minute), .int .i64 ((nth (done xs) (n - 1)).bill), .int .i64 ((nth (done xs) (n - 1)).frm), .int .i64 ((nth (done xs) (n - 1)).to), .int .i64 ((nth (done xs) (n - 1)).tons), .int .i64 ((nth (done xs) (n - 1)).port), .int .i64 ((nth (done xs) (n - 1)).sn)]) Try.isAgg41 Try.sizeOf41 rfl rfl rfl ((D176.at_ (n - 1) (by omega)).sub 0 8) rfl (t_alloc (cs := [.int .i64 0, .int .i64 0, .int .i64 0, .int .i64 0, .int .i64 0, .int .i64 0, .int .i64 0, .int .i64 0]) Try.zeroValue41 rfl rfl rfl (fun bk186 w187 ebk186 sbk186 B188 u189 => ?_)))
 have zu189 := u189.size
 refine t_st (vs := [.int .i64 ((nth (done xs) (n - 1)).kind), .int .i64 ((nth (done xs) (n - 1)).minute), .int .i64 ((nth (done xs) (n - 1)).bill), .int .i64 ((nth (done xs) (n - 1)).frm), .int .i64 ((nth (done xs) (n - 1)).to), .int .i64 ((nth (done xs) (n - 1)).tons), .int .i64 ((nth (done xs) (n - 1)).port), .int .i64 ((nth (done xs) (n - 1)).sn)]) Try.sizeOf41 rfl rfl rfl B188 rfl rfl rfl rfl (fun w191 sw191 B193 u192 => ?_)
 have zu192 := u192.size
 have B193 : Blk w191 bk186 41 [.int .i64 ((nth (done xs) (n - 1)).kind), .int .i64 ((nth (done xs) (n - 1)).minute), .int .i64 ((nth (done xs) (n - 1)).bill), .int .i64 ((nth (done xs) (n - 1)).frm), .int .i64 ((nth (done xs) (n - 1)).to), .int .i64 ((nth (done xs) (n - 1)).tons), .int .i64 ((nth (done xs) (n - 1)).port), .int .i64 ((nth (done xs) (n - 1)).sn)] := B193
 refine t_nil' (hK184 _ _ (c_seq fun K195 hK195 => (c_drawnM follows (fun _ => False) (.look 0 (.look 1 (.look 2 (.look 3 (.look 4 (.act 5 (.act 6 (.look 7 (.look 8 (.look 9 (.look 10 (.look 11 (.look 12 (.look 13 .done))))))) .stop) .stop)))))) (by kernel_rfl) fun w196 u197 => ?_)))
 have zu197 := u197.size
 have B199 := ((((((((B25.kx u29).kx u36).kx u43).kx u52).kx u84).kx u189).keep u192 (by omega)).kx u197)
 refine y_loadN (vs := [.slice (some ⟨bfB11, 0, none⟩) 4 4, .slice (some ⟨bfH12, 0, none⟩) 4 4]) Try.isAgg25 Try.sizeOf25 rfl rfl rfl (B199.at.sub 0 2) rfl (fun h => h) (y_move rfl rfl rfl (y_move rfl rfl rfl (y_ari rfl rfl rfl rfl rfl (by omega) ?_)))
 have D200 := (((D176.keep u189 (fun _ h => h)).keep u192 (fun hp => by have h9 := hdn.lt hp; show ¬ (gD = bk186); omega)).keep u197 (fun _ h => h))
 refine y_sliceTo ((n - 1)) Try.underlying26 Try.sizeOf41 rfl rfl rfl rfl (by omega) (by omega) (y_same 198 (v := .slice (subAddr aoD cD 0 8) (((done xs).take (n - 1)).length) cD) rfl (by rw [hnu]) (s_do (t_call own13 rfl rfl rfl rfl (eventsA_c (((done xs)).take (n - 1)) (subAddr aoD cD 0 8) gD 0 cD _ (Sl.subTo D200 cD (n - 1) (by omega)) (by first | omega | (simp only [List.length_append, List.length_singleton]; omega))) (fun v202 w203 r205 => ?_))))
 obtain ⟨aoE201, gE201, cE201, baE201, rfl, hkE201, hbE201, hzE201, u204⟩ := r205
 have zu204 := u204.size
 have lt_gE201 := hkE201.lt
 refine s_next ((Upd.refl _ _).nx u204) (s_do ?_)
 have D207 := (((((((D39.keep u43 (fun _ h => h)).keep u52 (fun _ h => h)).keep u84 (fun _ h => h)).keep u189 (fun _ h => h)).keep u192 (fun hp => by have h9 := hkfB11.lt hp; show ¬ (bfB11 = bk186); omega)).keep u197 (fun _ h => h)).keep u204 (fun _ h => h))
 have D208 := (((((((D40.keep u43 (fun _ h => h)).keep u52 (fun _ h => h)).keep u84 (fun _ h => h)).keep u189 (fun _ h => h)).keep u192 (fun hp => by have h9 := hkfH12.lt hp; show ¬ (bfH12 = bk186); omega)).keep u197 (fun _ h => h)).keep u204 (fun _ h => h))
 refine t_call own15 rfl rfl rfl rfl (ReplayU_c fourB (some ⟨bfB11, 0, none⟩) bfB11 0 4 fourH (some ⟨bfH12, 0, none⟩) bfH12 0 4 (((done xs)).take (n - 1)) aoE201 gE201 0 cE201 _ D207 D208 (by decide) (by decide) (hkE201.sl (fun _ => rfl)) (by first | omega | (simp only [List.length_append, List.length_singleton]; omega)) (by omega)) (fun v209 w210 r212 => ?_)
 obtain ⟨⟨aoA, gA, cA, rowsA, rfl, hroA, hrlA, h1A, h2A, h3A⟩, u211⟩ := r212
 have zu211 := u211.size
 have hzA := (sail_take hz (n - 1)).1
 obtain ⟨_, hrA⟩ := h2A hzA
 have hokA := sail_ok hzA
 have h4A := rows4 hokA hrA
 refine s_next ((Upd.refl _ _).nx u211) (y_move rfl rfl rfl (y_extract rfl rfl rfl rfl (y_same 201 (v := .slice aoA 4 cA) rfl (by rw [h4A]) (y_extract rfl rfl rfl rfl (y_extract rfl rfl rfl rfl (y_same 203 (v := .int .i64 0) rfl (congrArg (Value.int .i64) hzA) (y_assign rfl rfl rfl (y_assign rfl rfl rfl (y_assign rfl rfl rfl (s_nil (hK195 _ _ (c_seq fun K214 hK214 => (c_drawnM follows (fun _ => False) (.look 0 (.look 1 (.look 2 (.look 3 (.act 4 (.act 5 (.look 6 (.look 7 (.look 8 (.look 9 (.look 10 (.look 11 (.look 12 .done))))))) .stop) .stop))))) (by kernel_rfl) fun w215 u216 => ?_)))))))))))))
 have zu216 := u216.size
 have B218 := (((((((((((B25.kx u29).kx u36).kx u43).kx u52).kx u84).kx u189).keep u192 (by omega)).kx u197).kx u204).kx u211).kx u216)
 refine y_loadN (vs := [.slice (some ⟨bfB11, 0, none⟩) 4 4, .slice (some ⟨bfH12, 0, none⟩) 4 4]) Try.isAgg25 Try.sizeOf25 rfl rfl rfl (B218.at.sub 0 2) rfl (fun h => h) (y_move rfl rfl rfl (y_move rfl rfl rfl ?_))
 have D219 := (((D200.keep u204 (fun _ h => h)).keep u211 (fun _ h => h)).keep u216 (fun _ h => h))
 refine y_sliceTo (n) Try.underlying26 Try.sizeOf41 rfl rfl rfl rfl (by omega) (by omega) (y_same 208 (v := .slice (subAddr aoD cD 0 8) (((done xs).take n).length) cD) rfl (by rw [hnt]) (s_do (t_call own13 rfl rfl rfl rfl (eventsA_c (((done xs)).take n) (subAddr aoD cD 0 8) gD 0 cD _ (Sl.subTo D219 cD n (by omega)) (by first | omega | (simp only [List.length_append, List.length_singleton]; omega))) (fun v221 w222 r224 => ?_))))
 obtain ⟨aoE220, gE220, cE220, baE220, rfl, hkE220, hbE220, hzE220, u223⟩ := r224
 have zu223 := u223.size
 have lt_gE220 := hkE220.lt
 refine s_next ((Upd.refl _ _).nx u223) (s_do ?_)
 have D226 := (((D207.keep u211 (fun _ h => h)).keep u216 (fun _ h => h)).keep u223 (fun _ h => h))
 have D227 := (((D208.keep u211 (fun _ h => h)).keep u216 (fun _ h => h)).keep u223 (fun _ h => h))
 refine t_call own15 rfl rfl rfl rfl (ReplayU_c fourB (some ⟨bfB11, 0, none⟩) bfB11 0 4 fourH (some ⟨bfH12, 0, none⟩) bfH12 0 4 (((done xs)).take n) aoE220 gE220 0 cE220 _ D226 D227 (by decide) (by decide) (hkE220.sl (fun _ => rfl)) (by first | omega | (simp only [List.length_append, List.length_singleton]; omega)) (by omega)) (fun v228 w229 r231 => ?_)
 obtain ⟨⟨aoB, gB, cB, rowsB, rfl, hroB, hrlB, h1B, h2B, h3B⟩, u230⟩ := r231
 have zu230 := u230.size
 have hzB := (sail_take hz n).1
 obtain ⟨_, hrB⟩ := h2B hzB
 have hokB := sail_ok hzB
 have h4B := rows4 hokB hrB
 refine s_next ((Upd.refl _ _).nx u230) (y_move rfl rfl rfl (y_extract rfl rfl rfl rfl (y_same 211 (v := .slice aoB 4 cB) rfl (by rw [h4B]) (y_extract rfl rfl rfl rfl (y_extract rfl rfl rfl rfl (y_same 213 (v := .int .i64 0) rfl (congrArg (Value.int .i64) hzB) (y_assign rfl rfl rfl (y_assign rfl rfl rfl (y_assign rfl rfl rfl (s_nil (hK214 _ _ (c_seq fun K233 hK233 => (c_seq fun K234 hK234 => (c_region (t_move rfl rfl rfl (t_cmp rfl rfl rfl rfl rfl (t_samehd (v := .bool false) rfl (t_move rfl rfl rfl (t_move rfl rfl rfl (t_cmp rfl rfl rfl rfl rfl (t_samehd (v := .bool false) rfl (t_pick_f rfl rfl rfl rfl (t_move rfl rfl rfl ?_)))))))))))))))))))))))
 refine t_move rfl rfl rfl (t_len Try.underlying33 rfl rfl rfl rfl (t_cmp rfl rfl rfl rfl rfl (t_samehd (v := .bool false) rfl (t_pick_f rfl rfl rfl rfl (t_move rfl rfl rfl (t_move rfl rfl rfl (t_len Try.underlying33 rfl rfl rfl rfl (t_cmp rfl rfl rfl rfl rfl (t_samehd (v := .bool false) rfl (t_pick_f rfl rfl rfl rfl (t_nil' (hK234 _ _ (c_cond_f rfl (c_skip (hK233 _ _ (c_seq fun K235 hK235 => ?_))))))))))))))))
 obtain ⟨qs, hsh⟩ := shift_ok hz (n := n - 1) (by omega) hk2
 rw [show n - 1 + 1 = n by omega] at hsh
 have hfr := hsh.frm
 have hto := hsh.to
 have hkA := rowK hokA (by omega) hrA (k := (nth (done xs) (n - 1)).to.toNat) (by omega)
 have hkB := rowK hokB (by omega) hrB (k := (nth (done xs) (n - 1)).to.toNat) (by omega)
 have hkF := rowK hokA (by omega) hrA (k := (nth (done xs) (n - 1)).frm.toNat) (by omega)
 have hkG := rowK hokB (by omega) hrB (k := (nth (done xs) (n - 1)).frm.toNat) (by omega)
 have hsr := sh_row hsh hkA.2.2.2.1 hkB.2.2.2.1 hkF.2.2.2.1
 have hsr1 := hsr.1
 have hsr3 := hsr.2.2.1
 have hcB := h3B _ (nth_mem (xs := rowsB) (i := (nth (done xs) (n - 1)).to.toNat) (by omega))
 have hsm : tonsV ((nth rowsB (nth (done xs) (n - 1)).frm.toNat).xs.map HLay.v) (-1) + (nth (done xs) (n - 1)).tons = tonsV ((nth rowsA (nth (done xs) (n - 1)).frm.toNat).xs.map HLay.v) (-1) := by
   show sumT _ + _ = sumT _
   rw [hkG.2.2.2.1, hkF.2.2.2.1]; exact hsh.sum
 have hta : tonsV ((nth rowsA (nth (done xs) (n - 1)).frm.toNat).xs.map HLay.v) (-1) ≤ 2000 := by
   show sumT _ ≤ _
   rw [hkF.2.2.2.1]; exact hkF.2.2.2.2.2
 have htb : 0 ≤ tonsV ((nth rowsB (nth (done xs) (n - 1)).frm.toNat).xs.map HLay.v) (-1) := by
   show 0 ≤ sumT _
   rw [hkG.2.2.2.1]; exact hkG.2.2.2.2.1
 have hxr := (okEv_rng ((sail_inv hz).2.2 _ (nth_mem (xs := done xs) (i := n - 1) (by omega)))).2.2.2.2.1
 have hlA := hkA.1
 have hlB := hkB.1
 have hlFF := hkF.1
 have h244 : ¬ ((nth rowsB (nth (done xs) (n - 1)).to.toNat).xs.length : Int) < ((nth rowsA (nth (done xs) (n - 1)).to.toNat).xs.length : Int) := by omega
 refine c_drawnQ follows (by kernel_rfl) (p_move rfl rfl rfl (p_field Try.underlying41 rfl Try.sizeOf3 (4) rfl rfl rfl rfl ?_))
 have B240 := ((((((B193.kx u197).kx u204).kx u211).kx u216).kx u223).kx u230)
 refine p_load Try.isAgg3 rfl rfl rfl (B240.get rfl) ?_
 have D241 := (((hroA.keep u216 (fun _ h => h)).keep u223 (fun _ h => h)).keep u230 (fun _ h => h))
 have i242 : (nth (done xs) (n - 1)).to.toNat < rowsA.length := (by omega)
 refine p_index (j := (nth (done xs) (n - 1)).to.toNat) Try.underlying33 Try.sizeOf36 rfl rfl rfl rfl (D241.addr (by omega)) (by omega) (by omega) (p_load Try.isAgg36 rfl rfl rfl ((D241.at_ ((nth (done xs) (n - 1)).to.toNat) (by omega)) 0 _ rfl) (p_len Try.underlying36 rfl rfl rfl rfl (p_move rfl rfl rfl (p_field Try.underlying41 rfl Try.sizeOf3 (4) rfl rfl rfl rfl (p_load Try.isAgg3 rfl rfl rfl (B240.get rfl) ?_)))))
 have i243 : (nth (done xs) (n - 1)).to.toNat < rowsB.length := (by omega)
 refine p_index (j := (nth (done xs) (n - 1)).to.toNat) Try.underlying33 Try.sizeOf36 rfl rfl rfl rfl (hroB.addr (by omega)) (by omega) (by omega) (p_load Try.isAgg36 rfl rfl rfl ((hroB.at_ ((nth (done xs) (n - 1)).to.toNat) (by omega)) 0 _ rfl) (p_len Try.underlying36 rfl rfl rfl rfl (p_assign rfl rfl rfl (p_assign rfl rfl rfl (p_nil fun w244 u245 => ?_)))))
 have zu245 := u245.size
 refine t_nil' (hK235 _ _ (c_seq fun K247 hK247 => (c_seq fun K248 hK248 => (c_drawnM follows (fun _ => False) (.look 0 (.look 1 (.look 2 (.look 3 (.look 4 (.look 5 (.look 6 (.look 7 (.look 8 (.look 9 (.look 10 (.look 11 (.look 12 (.look 13 (.look 14 (.look 15 (.act 16 (.look 17 (.look 18 (.look 19 (.look 20 (.look 21 (.look 22 (.look 23 (.look 24 (.look 26 (.look 27 (.look 29 (.look 30 (.look 31 (.look 32 (.look 33 (.act 25 (.look 28 (.act 34 (.look 35 (.look 36 .done)) .stop)) .stop)))))))))))))))) .stop))))))))))))))))) (by kernel_rfl) fun w249 u250 => ?_))))
 have zu250 := u250.size
 refine y_move rfl rfl rfl (y_move rfl rfl rfl (y_cmp rfl rfl rfl rfl rfl (y_samehd (v := .bool false) (by simp [h244]) (y_move rfl rfl rfl (y_move rfl rfl rfl (y_field Try.underlying41 rfl Try.sizeOf3 (4) rfl rfl rfl rfl ?_))))))
 have B252 := ((B240.kx u245).kx u250)
 refine y_load Try.isAgg3 rfl rfl rfl (B252.get rfl) (fun h => h) ?_
 have D253 := ((D241.keep u245 (fun _ h => h)).keep u250 (fun _ h => h))
 have i254 : (nth (done xs) (n - 1)).to.toNat < rowsA.length := (by omega)
 refine y_index (j := (nth (done xs) (n - 1)).to.toNat) Try.underlying33 Try.sizeOf36 rfl rfl rfl rfl (D253.addr (by omega)) (by omega) (by omega) ?_
 have D255 := ((D241.keep u245 (fun _ h => h)).keep u250 (fun _ h => h))
 refine y_load Try.isAgg36 rfl rfl rfl ((D255.at_ ((nth (done xs) (n - 1)).to.toNat) (by omega)) 0 _ rfl) (fun h => h) (y_move rfl rfl rfl (y_field Try.underlying41 rfl Try.sizeOf3 (4) rfl rfl rfl rfl (y_load Try.isAgg3 rfl rfl rfl (B252.get rfl) (fun h => h) ?_)))
 have D256 := ((hroB.keep u245 (fun _ h => h)).keep u250 (fun _ h => h))
 have i257 : (nth (done xs) (n - 1)).to.toNat < rowsB.length := (by omega)
 refine y_index (j := (nth (done xs) (n - 1)).to.toNat) Try.underlying33 Try.sizeOf36 rfl rfl rfl rfl (D256.addr (by omega)) (by omega) (by omega) ?_
 have D258 := ((hroB.keep u245 (fun _ h => h)).keep u250 (fun _ h => h))
 refine y_load Try.isAgg36 rfl rfl rfl ((D258.at_ ((nth (done xs) (n - 1)).to.toNat) (by omega)) 0 _ rfl) (fun h => h) (y_move rfl rfl rfl (y_sliceTo ((nth rowsA (nth (done xs) (n - 1)).to.toNat).xs.length) Try.underlying36 Try.sizeOf97 rfl rfl rfl rfl rfl (by omega) (y_same 257 (v := .slice (subAddr (nth rowsB (nth (done xs) (n - 1)).to.toNat).ao (nth rowsB (nth (done xs) (n - 1)).to.toNat).cp 0 3) (((nth rowsB (nth (done xs) (n - 1)).to.toNat).xs.take (nth rowsA (nth (done xs) (n - 1)).to.toNat).xs.length).length) ((nth rowsB (nth (done xs) (n - 1)).to.toNat).cp)) rfl (by rw [List.length_take, Nat.min_eq_left (by omega)]) (s_do ?_))))
 have D259 := (fun r hr => LaysR.keep ((fun r hr => LaysR.keep ((fun r hr => LaysR.keep ((fun r hr => LaysR.keep ((fun r hr => LaysR.keep (hrlA r hr) u216 (fun _ _ h => h)) r hr) u223 (fun _ _ h => h)) r hr) u230 (fun _ _ h => h)) r hr) u245 (fun _ _ h => h)) r hr) u250 (fun _ _ h => h))
 have D260 := (fun r hr => LaysR.keep ((fun r hr => LaysR.keep (hrlB r hr) u245 (fun _ _ h => h)) r hr) u250 (fun _ _ h => h))
 refine t_call own20 rfl rfl rfl rfl (layers_c (nth rowsA (nth (done xs) (n - 1)).to.toNat).xs ((nth rowsB (nth (done xs) (n - 1)).to.toNat).xs.take (nth rowsA (nth (done xs) (n - 1)).to.toNat).xs.length) (nth rowsA (nth (done xs) (n - 1)).to.toNat).ao (subAddr (nth rowsB (nth (done xs) (n - 1)).to.toNat).ao (nth rowsB (nth (done xs) (n - 1)).to.toNat).cp 0 3) (nth rowsA (nth (done xs) (n - 1)).to.toNat).g (nth rowsB (nth (done xs) (n - 1)).to.toNat).g (nth rowsA (nth (done xs) (n - 1)).to.toNat).cp (nth rowsB (nth (done xs) (n - 1)).to.toNat).cp _ (D259 (nth rowsA (nth (done xs) (n - 1)).to.toNat) (nth_mem (by omega))) (LaysR.take (D260 (nth rowsB (nth (done xs) (n - 1)).to.toNat) (nth_mem (by omega))) (h3B _ (nth_mem (by omega)))) hkA.1 hkA.2.2.1) (fun v261 w262 r264 => ?_)
 obtain ⟨rfl, u263⟩ := r264
 have zu263 := u263.size
 refine t_same 258 (v := .bool true) rfl (congrArg Value.bool (decide_eq_true (hsr.2.1))) (s_next ((Upd.refl _ _).nx u263) (y_not rfl rfl rfl (y_pick_f rfl rfl rfl rfl (y_move rfl rfl rfl (y_move rfl rfl rfl (y_field Try.underlying41 rfl Try.sizeOf3 (3) rfl rfl rfl rfl (y_load Try.isAgg3 rfl rfl rfl (B252.get rfl) (fun h => h) ?_)))))))
 have D266 := (D256.keep u263 (fun _ h => h))
 have i267 : (nth (done xs) (n - 1)).frm.toNat < rowsB.length := (by omega)
 refine y_index (j := (nth (done xs) (n - 1)).frm.toNat) Try.underlying33 Try.sizeOf36 rfl rfl rfl rfl (D266.addr (by omega)) (by omega) (by omega) (y_load Try.isAgg36 rfl rfl rfl ((D258.at_ ((nth (done xs) (n - 1)).frm.toNat) (by omega)) 0 _ rfl) (fun h => h) (y_field Try.underlying41 rfl Try.sizeOf3 (5) rfl rfl rfl rfl (y_load Try.isAgg3 rfl rfl rfl (B252.get rfl) (fun h => h) (y_move rfl rfl rfl (y_field Try.underlying41 rfl Try.sizeOf3 (3) rfl rfl rfl rfl (y_load Try.isAgg3 rfl rfl rfl (B252.get rfl) (fun h => h) ?_))))))
 have D268 := (D253.keep u263 (fun _ h => h))
 have i269 : (nth (done xs) (n - 1)).frm.toNat < rowsA.length := (by omega)
 refine y_index (j := (nth (done xs) (n - 1)).frm.toNat) Try.underlying33 Try.sizeOf36 rfl rfl rfl rfl (D268.addr (by omega)) (by omega) (by omega) (y_load Try.isAgg36 rfl rfl rfl ((D255.at_ ((nth (done xs) (n - 1)).frm.toNat) (by omega)) 0 _ rfl) (fun h => h) (s_do ?_))
 have D270 := (fun r hr => LaysR.keep (D260 r hr) u263 (fun _ _ h => h))
 refine t_call own33 rfl rfl rfl rfl (tons11_c (nth rowsB ((nth (done xs) (n - 1)).frm.toNat)).xs (nth rowsB ((nth (done xs) (n - 1)).frm.toNat)).ao (nth rowsB ((nth (done xs) (n - 1)).frm.toNat)).g (nth rowsB ((nth (done xs) (n - 1)).frm.toNat)).cp (-1) _ (D270 (nth rowsB ((nth (done xs) (n - 1)).frm.toNat)) (nth_mem (by omega))).1 hkG.1 hkG.2.1) (fun v271 w272 r274 => ?_)
 obtain ⟨rfl, u273⟩ := r274
 have zu273 := u273.size
 refine s_next ((Upd.refl _ _).nx u273) (y_ari rfl rfl rfl rfl rfl (by omega) (s_do ?_))
 have D276 := (fun r hr => LaysR.keep ((fun r hr => LaysR.keep (D259 r hr) u263 (fun _ _ h => h)) r hr) u273 (fun _ _ h => h))
 refine t_call own33 rfl rfl rfl rfl (tons11_c (nth rowsA ((nth (done xs) (n - 1)).frm.toNat)).xs (nth rowsA ((nth (done xs) (n - 1)).frm.toNat)).ao (nth rowsA ((nth (done xs) (n - 1)).frm.toNat)).g (nth rowsA ((nth (done xs) (n - 1)).frm.toNat)).cp (-1) _ (D276 (nth rowsA ((nth (done xs) (n - 1)).frm.toNat)) (nth_mem (by omega))).1 hkF.1 hkF.2.1) (fun v277 w278 r280 => ?_)
 obtain ⟨rfl, u279⟩ := r280
 have zu279 := u279.size
 refine s_next ((Upd.refl _ _).nx u279) (y_cmp rfl rfl rfl rfl rfl (y_same 277 (v := .bool false) rfl (congrArg Value.bool (decide_eq_false (fun h => h hsm))) (y_pick_f rfl rfl rfl rfl (s_nil (hK248 _ _ (c_cond_f rfl (c_skip (hK247 _ _ (c_seq fun K282 hK282 => (c_region (t_move rfl rfl rfl (t_field Try.underlying41 rfl Try.sizeOf3 (3) rfl rfl rfl rfl ?_))))))))))))
 have B283 := (((((B240.kx u245).kx u250).kx u263).kx u273).kx u279)
 refine t_load Try.isAgg3 rfl rfl rfl (B283.get rfl) ?_
 have D284 := ((D268.keep u273 (fun _ h => h)).keep u279 (fun _ h => h))
 have i285 : (nth (done xs) (n - 1)).frm.toNat < rowsA.length := (by omega)
 refine t_index (j := (nth (done xs) (n - 1)).frm.toNat) Try.underlying33 Try.sizeOf36 rfl rfl rfl rfl (D284.addr (by omega)) (by omega) (by omega) (t_load Try.isAgg36 rfl rfl rfl ((D284.at_ ((nth (done xs) (n - 1)).frm.toNat) (by omega)) 0 _ rfl) (t_len Try.underlying36 rfl rfl rfl rfl (t_ari rfl rfl rfl rfl rfl (by omega) (t_assign rfl rfl rfl (t_nil' (hK282 _ _ (c_seq fun K286 hK286 => (c_seq fun K287 hK287 => (c_region (t_move rfl rfl rfl (t_assign rfl rfl rfl (t_nil' (hK287 _ _ (c_block (c_loop (γ := Nat) (fun j => [(21, .pointer (some ⟨bk186, 0, none⟩)), (22, .slice aoA 4 cA), (24, .slice aoB 4 cB), (28, .int .i64 ((nth rowsB ((nth (done xs) (n - 1)).to.toNat)).xs.length : Int)), (29, .int .i64 (((nth rowsA (nth (done xs) (n - 1)).frm.toNat).xs.length : Int) - 1 - (j : Int))), (30, .int .i64 (((nth rowsA (nth (done xs) (n - 1)).to.toNat).xs.length : Int) + (j : Int)))]) (fun j w => Upd (fun _ => False) w278 w ∧ (j ≤ qs.length)) (fun j => qs.length - j) 0 ⟨rfl, rfl, rfl, rfl, (congrArg (fun z => some (Value.int .i64 z)) (by omega)), (congrArg (fun z => some (Value.int .i64 z)) (by omega)), trivial⟩ ⟨Upd.refl _ _, (Nat.zero_le _)⟩ ?_)))))))))))))))
 intro j w289 hW K288 hK288
 obtain ⟨u290, I291⟩ := hW
 have zu290 := u290.size
 have hj := I291; clear I291
 refine c_seq fun K293 hK293 => (c_seq fun K294 hK294 => (c_region (t_move rfl rfl rfl (t_move rfl rfl rfl (t_cmp rfl rfl rfl rfl rfl (t_nil' (hK294 _ _ (c_condp rfl (fun g289 => ?_) (fun g289 => ?_)))))))))
 ·
  refine c_skip (hK293 _ _ (c_seq fun K295 hK295 => (c_block (c_seq fun K296 hK296 => (c_seq fun K297 hK297 => ?_)))))
  have hj3 := hsr.2.2.2 j (by omega)
  have h293 : ¬ ((nth rowsA (nth (done xs) (n - 1)).frm.toNat).xs.length : Int) - 1 - (j : Int) < 0 := by omega
  have h313 : ¬ (nth (nth rowsB (nth (done xs) (n - 1)).to.toNat).xs ((nth rowsA (nth (done xs) (n - 1)).to.toNat).xs.length + j)).v.bill ≠ (nth (nth rowsA (nth (done xs) (n - 1)).frm.toNat).xs ((nth rowsA (nth (done xs) (n - 1)).frm.toNat).xs.length - 1 - j)).v.bill := fun h => h hj3.1
  have h334 : ¬ (nth (nth rowsA (nth (done xs) (n - 1)).frm.toNat).xs ((nth rowsA (nth (done xs) (n - 1)).frm.toNat).xs.length - 1 - j)).v.tons < (nth (nth rowsB (nth (done xs) (n - 1)).to.toNat).xs ((nth rowsA (nth (done xs) (n - 1)).to.toNat).xs.length + j)).v.tons := by have := hj3.2.1; omega
  refine c_drawnQ follows (by kernel_rfl) (p_move rfl rfl rfl (p_cmp rfl rfl rfl rfl rfl (p_samehd (v := .bool false) (by simp [h293]) (p_move rfl rfl rfl (p_move rfl rfl rfl (p_field Try.underlying41 rfl Try.sizeOf3 (4) rfl rfl rfl rfl ?_))))))
  have B315 := (B283.kx u290)
  refine p_load Try.isAgg3 rfl rfl rfl (B315.get rfl) ?_
  have D316 := (((D266.keep u273 (fun _ h => h)).keep u279 (fun _ h => h)).keep u290 (fun _ h => h))
  have i317 : (nth (done xs) (n - 1)).to.toNat < rowsB.length := (by omega)
  refine p_index (j := (nth (done xs) (n - 1)).to.toNat) Try.underlying33 Try.sizeOf36 rfl rfl rfl rfl (D316.addr (by omega)) (by omega) (by omega) (p_load Try.isAgg36 rfl rfl rfl ((D316.at_ ((nth (done xs) (n - 1)).to.toNat) (by omega)) 0 _ rfl) (p_move rfl rfl rfl ?_))
  have D318 := (fun r hr => LaysR.keep ((fun r hr => LaysR.keep ((fun r hr => LaysR.keep (D270 r hr) u273 (fun _ _ h => h)) r hr) u279 (fun _ _ h => h)) r hr) u290 (fun _ _ h => h))
  have i319 : ((nth rowsA (nth (done xs) (n - 1)).to.toNat).xs.length + j) < (nth rowsB ((nth (done xs) (n - 1)).to.toNat)).xs.length := (by omega)
  refine p_index (j := ((nth rowsA (nth (done xs) (n - 1)).to.toNat).xs.length + j)) Try.underlying36 Try.sizeOf97 rfl rfl rfl rfl ((D318 (nth rowsB ((nth (done xs) (n - 1)).to.toNat)) (nth_mem (by omega))).1.addr (by omega)) (by omega) i319 (p_field Try.underlying97 rfl Try.sizeOf3 (0 + ((nth rowsA (nth (done xs) (n - 1)).to.toNat).xs.length + j) * 3 + 0) rfl rfl rfl rfl (p_load Try.isAgg3 rfl rfl rfl (((D318 (nth rowsB ((nth (done xs) (n - 1)).to.toNat)) (nth_mem (by omega))).1.at_ ((nth rowsA (nth (done xs) (n - 1)).to.toNat).xs.length + j) (by omega)) 0 _ rfl) (p_move rfl rfl rfl (p_field Try.underlying41 rfl Try.sizeOf3 (3) rfl rfl rfl rfl (p_load Try.isAgg3 rfl rfl rfl (B315.get rfl) ?_)))))
  have D320 := (D284.keep u290 (fun _ h => h))
  have i321 : (nth (done xs) (n - 1)).frm.toNat < rowsA.length := (by omega)
  refine p_index (j := (nth (done xs) (n - 1)).frm.toNat) Try.underlying33 Try.sizeOf36 rfl rfl rfl rfl (D320.addr (by omega)) (by omega) (by omega) (p_load Try.isAgg36 rfl rfl rfl ((D320.at_ ((nth (done xs) (n - 1)).frm.toNat) (by omega)) 0 _ rfl) (p_move rfl rfl rfl ?_))
  have D322 := (fun r hr => LaysR.keep ((fun r hr => LaysR.keep (D276 r hr) u279 (fun _ _ h => h)) r hr) u290 (fun _ _ h => h))
  have i323 : ((nth rowsA (nth (done xs) (n - 1)).frm.toNat).xs.length - 1 - j) < (nth rowsA ((nth (done xs) (n - 1)).frm.toNat)).xs.length := (by omega)
  refine p_index (j := ((nth rowsA (nth (done xs) (n - 1)).frm.toNat).xs.length - 1 - j)) Try.underlying36 Try.sizeOf97 rfl rfl rfl rfl ((D322 (nth rowsA ((nth (done xs) (n - 1)).frm.toNat)) (nth_mem (by omega))).1.addr (by omega)) (by omega) i323 (p_field Try.underlying97 rfl Try.sizeOf3 (0 + ((nth rowsA (nth (done xs) (n - 1)).frm.toNat).xs.length - 1 - j) * 3 + 0) rfl rfl rfl rfl (p_load Try.isAgg3 rfl rfl rfl (((D322 (nth rowsA ((nth (done xs) (n - 1)).frm.toNat)) (nth_mem (by omega))).1.at_ ((nth rowsA (nth (done xs) (n - 1)).frm.toNat).xs.length - 1 - j) (by omega)) 0 _ rfl) (p_cmp rfl rfl rfl rfl rfl (p_samehd (v := .bool false) (by simp [h313]) (p_pick_f rfl rfl rfl rfl (p_move rfl rfl rfl (p_move rfl rfl rfl (p_field Try.underlying41 rfl Try.sizeOf3 (4) rfl rfl rfl rfl (p_load Try.isAgg3 rfl rfl rfl (B315.get rfl) ?_)))))))))
  have i324 : (nth (done xs) (n - 1)).to.toNat < rowsB.length := (by omega)
  refine p_index (j := (nth (done xs) (n - 1)).to.toNat) Try.underlying33 Try.sizeOf36 rfl rfl rfl rfl (D316.addr (by omega)) (by omega) (by omega) (p_load Try.isAgg36 rfl rfl rfl ((D316.at_ ((nth (done xs) (n - 1)).to.toNat) (by omega)) 0 _ rfl) (p_move rfl rfl rfl ?_))
  have i325 : ((nth rowsA (nth (done xs) (n - 1)).to.toNat).xs.length + j) < (nth rowsB ((nth (done xs) (n - 1)).to.toNat)).xs.length := (by omega)
  refine p_index (j := ((nth rowsA (nth (done xs) (n - 1)).to.toNat).xs.length + j)) Try.underlying36 Try.sizeOf97 rfl rfl rfl rfl ((D318 (nth rowsB ((nth (done xs) (n - 1)).to.toNat)) (nth_mem (by omega))).1.addr (by omega)) (by omega) i325 (p_field Try.underlying97 rfl Try.sizeOf3 (0 + ((nth rowsA (nth (done xs) (n - 1)).to.toNat).xs.length + j) * 3 + 1) rfl rfl rfl rfl (p_load Try.isAgg3 rfl rfl rfl (((D318 (nth rowsB ((nth (done xs) (n - 1)).to.toNat)) (nth_mem (by omega))).1.at_ ((nth rowsA (nth (done xs) (n - 1)).to.toNat).xs.length + j) (by omega)) 1 _ rfl) (p_move rfl rfl rfl (p_field Try.underlying41 rfl Try.sizeOf3 (3) rfl rfl rfl rfl (p_load Try.isAgg3 rfl rfl rfl (B315.get rfl) ?_)))))
  have i326 : (nth (done xs) (n - 1)).frm.toNat < rowsA.length := (by omega)
  refine p_index (j := (nth (done xs) (n - 1)).frm.toNat) Try.underlying33 Try.sizeOf36 rfl rfl rfl rfl (D320.addr (by omega)) (by omega) (by omega) (p_load Try.isAgg36 rfl rfl rfl ((D320.at_ ((nth (done xs) (n - 1)).frm.toNat) (by omega)) 0 _ rfl) (p_move rfl rfl rfl ?_))
  have i327 : ((nth rowsA (nth (done xs) (n - 1)).frm.toNat).xs.length - 1 - j) < (nth rowsA ((nth (done xs) (n - 1)).frm.toNat)).xs.length := (by omega)
  refine p_index (j := ((nth rowsA (nth (done xs) (n - 1)).frm.toNat).xs.length - 1 - j)) Try.underlying36 Try.sizeOf97 rfl rfl rfl rfl ((D322 (nth rowsA ((nth (done xs) (n - 1)).frm.toNat)) (nth_mem (by omega))).1.addr (by omega)) (by omega) i327 (p_field Try.underlying97 rfl Try.sizeOf3 (0 + ((nth rowsA (nth (done xs) (n - 1)).frm.toNat).xs.length - 1 - j) * 3 + 1) rfl rfl rfl rfl (p_load Try.isAgg3 rfl rfl rfl (((D322 (nth rowsA ((nth (done xs) (n - 1)).frm.toNat)) (nth_mem (by omega))).1.at_ ((nth rowsA (nth (done xs) (n - 1)).frm.toNat).xs.length - 1 - j) (by omega)) 1 _ rfl) (p_cmp rfl rfl rfl rfl rfl (p_samehd (v := .bool false) (by simp [h334]) (p_pick_f rfl rfl rfl rfl (p_move rfl rfl rfl (p_move rfl rfl rfl (p_move rfl rfl rfl (p_ari rfl rfl rfl rfl rfl (by omega) (p_cmp rfl rfl rfl rfl rfl (p_move rfl rfl rfl (p_splitp 341 rfl (fun g341 => ?_) (fun g341 => ?_)))))))))))))
  ·
   have h360 : ¬ (nth (nth rowsB (nth (done xs) (n - 1)).to.toNat).xs ((nth rowsA (nth (done xs) (n - 1)).to.toNat).xs.length + j)).v.tons ≠ (nth (nth rowsA (nth (done xs) (n - 1)).frm.toNat).xs ((nth rowsA (nth (done xs) (n - 1)).frm.toNat).xs.length - 1 - j)).v.tons := fun h => h (hj3.2.2 (by omega))
   refine p_move rfl rfl rfl (p_field Try.underlying41 rfl Try.sizeOf3 (4) rfl rfl rfl rfl (p_load Try.isAgg3 rfl rfl rfl (B315.get rfl) ?_))
   have i328 : (nth (done xs) (n - 1)).to.toNat < rowsB.length := (by omega)
   refine p_index (j := (nth (done xs) (n - 1)).to.toNat) Try.underlying33 Try.sizeOf36 rfl rfl rfl rfl (D316.addr (by omega)) (by omega) (by omega) (p_load Try.isAgg36 rfl rfl rfl ((D316.at_ ((nth (done xs) (n - 1)).to.toNat) (by omega)) 0 _ rfl) (p_move rfl rfl rfl ?_))
   have i329 : ((nth rowsA (nth (done xs) (n - 1)).to.toNat).xs.length + j) < (nth rowsB ((nth (done xs) (n - 1)).to.toNat)).xs.length := (by omega)
   refine p_index (j := ((nth rowsA (nth (done xs) (n - 1)).to.toNat).xs.length + j)) Try.underlying36 Try.sizeOf97 rfl rfl rfl rfl ((D318 (nth rowsB ((nth (done xs) (n - 1)).to.toNat)) (nth_mem (by omega))).1.addr (by omega)) (by omega) i329 (p_field Try.underlying97 rfl Try.sizeOf3 (0 + ((nth rowsA (nth (done xs) (n - 1)).to.toNat).xs.length + j) * 3 + 1) rfl rfl rfl rfl (p_load Try.isAgg3 rfl rfl rfl (((D318 (nth rowsB ((nth (done xs) (n - 1)).to.toNat)) (nth_mem (by omega))).1.at_ ((nth rowsA (nth (done xs) (n - 1)).to.toNat).xs.length + j) (by omega)) 1 _ rfl) (p_move rfl rfl rfl (p_field Try.underlying41 rfl Try.sizeOf3 (3) rfl rfl rfl rfl (p_load Try.isAgg3 rfl rfl rfl (B315.get rfl) ?_)))))
   have i330 : (nth (done xs) (n - 1)).frm.toNat < rowsA.length := (by omega)
   refine p_index (j := (nth (done xs) (n - 1)).frm.toNat) Try.underlying33 Try.sizeOf36 rfl rfl rfl rfl (D320.addr (by omega)) (by omega) (by omega) (p_load Try.isAgg36 rfl rfl rfl ((D320.at_ ((nth (done xs) (n - 1)).frm.toNat) (by omega)) 0 _ rfl) (p_move rfl rfl rfl ?_))
   have i331 : ((nth rowsA (nth (done xs) (n - 1)).frm.toNat).xs.length - 1 - j) < (nth rowsA ((nth (done xs) (n - 1)).frm.toNat)).xs.length := (by omega)
   refine p_index (j := ((nth rowsA (nth (done xs) (n - 1)).frm.toNat).xs.length - 1 - j)) Try.underlying36 Try.sizeOf97 rfl rfl rfl rfl ((D322 (nth rowsA ((nth (done xs) (n - 1)).frm.toNat)) (nth_mem (by omega))).1.addr (by omega)) (by omega) i331 (p_field Try.underlying97 rfl Try.sizeOf3 (0 + ((nth rowsA (nth (done xs) (n - 1)).frm.toNat).xs.length - 1 - j) * 3 + 1) rfl rfl rfl rfl (p_load Try.isAgg3 rfl rfl rfl (((D322 (nth rowsA ((nth (done xs) (n - 1)).frm.toNat)) (nth_mem (by omega))).1.at_ ((nth rowsA (nth (done xs) (n - 1)).frm.toNat).xs.length - 1 - j) (by omega)) 1 _ rfl) (p_cmp rfl rfl rfl rfl rfl (p_samehd (v := .bool false) (by simp [h360]) (p_pick_t rfl rfl rfl rfl (p_pick_f rfl rfl rfl rfl (p_nil fun w332 u333 => ?_)))))))
   have zu333 := u333.size
   refine t_nil' (hK297 _ _ (c_cond_f rfl (c_skip (hK296 _ _ (c_region (t_move rfl rfl rfl (t_ari rfl rfl rfl rfl rfl (by omega) (t_assign rfl rfl rfl (t_nil' (hK295 _ _ (c_region (t_move rfl rfl rfl (t_ari rfl rfl rfl rfl rfl (by omega) (t_assign rfl rfl rfl (t_nil' ?_)))))))))))))))
   exact hK288 (j + 1) _ _ (by omega) ⟨rfl, rfl, rfl, rfl, (congrArg (fun z => some (Value.int .i64 z)) (by omega)), (congrArg (fun z => some (Value.int .i64 z)) (by omega)), trivial⟩ ⟨(u290.next u333 (fun _ _ h => h.elim)), (by omega)⟩
  refine p_skip rfl rfl rfl (p_skip rfl rfl rfl (p_skip rfl rfl rfl (p_skip rfl rfl rfl (p_skip rfl rfl rfl (p_skip rfl rfl rfl (p_skip rfl rfl rfl (p_skip rfl rfl rfl (p_skip rfl rfl rfl (p_skip rfl rfl rfl (p_skip rfl rfl rfl (p_skip rfl rfl rfl (p_skip rfl rfl rfl (p_skip rfl rfl rfl (p_skip rfl rfl rfl (p_skip rfl rfl rfl (p_skip rfl rfl rfl (p_skip rfl rfl rfl (p_skip rfl rfl rfl (p_pick_f rfl rfl rfl rfl (p_pick_f rfl rfl rfl rfl (p_nil fun w335 u336 => ?_)))))))))))))))))))))
  have zu336 := u336.size
  refine t_nil' (hK297 _ _ (c_cond_f rfl (c_skip (hK296 _ _ (c_region (t_move rfl rfl rfl (t_ari rfl rfl rfl rfl rfl (by omega) (t_assign rfl rfl rfl (t_nil' (hK295 _ _ (c_region (t_move rfl rfl rfl (t_ari rfl rfl rfl rfl rfl (by omega) (t_assign rfl rfl rfl (t_nil' ?_)))))))))))))))
  exact hK288 (j + 1) _ _ (by omega) ⟨rfl, rfl, rfl, rfl, (congrArg (fun z => some (Value.int .i64 z)) (by omega)), (congrArg (fun z => some (Value.int .i64 z)) (by omega)), trivial⟩ ⟨(u290.next u336 (fun _ _ h => h.elim)), (by omega)⟩
 refine c_exit (hK286 _ _ (c_seq fun K338 hK338 => (c_region (t_call own11 rfl rfl rfl rfl (known_c _) (fun v339 w340 r342 => ?_)))))
 obtain ⟨rfl, u341⟩ := r342
 have zu341 := u341.size
 refine t_assign rfl rfl rfl (t_nil' (hK338 _ _ (c_ret (f_ret1 (v := .bool true) Try.results7 rfl ?_))))
 exact ⟨rfl, (((((((((((((((E86.nx u189).next u192 (fun i hi h => by omega)).nx u197).nx u204).nx u211).nx u216).nx u223).nx u230).nx u245).nx u250).nx u263).nx u273).nx u279).nx u290).nx u341)⟩

end Go.Proofs.Ytblkphbblkncdaa
