/-
  The reference's small functions. Conditions: none.
-/
import Derived.Test.YtgkkgpenmppjcaaVA18
namespace Go.Proofs.Ytgkkgpenmppjcaa
open Go Go.RowKit

theorem chkM_t {bs : List Bil} {hs : List Hld} (h1 : (bs.any fun b => !okBil b) = false) (h2 : (hs.any fun h => !okHld h) = false) (h3 : bs.length ≤ 30) (h4 : hs.length ≤ 20) : decide (chkM bs hs = 0) = true := by
  unfold chkM
  rw [h1, h2, if_neg (by simp; omega)]; rfl
theorem chkM_f {bs : List Bil} {hs : List Hld} (h : (bs.any fun b => !okBil b) = true ∨ (hs.any fun h => !okHld h) = true ∨ 30 < bs.length ∨ 20 < hs.length) : decide (chkM bs hs = 0) = false := by
  unfold chkM
  rw [if_pos h]; rfl
theorem any_nth {α : Type} [Inhabited α] {xs : List α} {p : α → Bool} {k : Nat} (hk : k < xs.length) (h : p (nth xs k) = true) : xs.any p = true := List.any_eq_true.2 ⟨_, nth_mem hk, h⟩
theorem any_grow {α : Type} [Inhabited α] {xs : List α} {p : α → Bool} {k : Nat} (hk : k < xs.length) (h0 : (xs.take k).any p = false) (h : p (nth xs k) = false) : (xs.take (k + 1)).any p = false := by rw [take_nth hk, List.any_append, h0]; simp [h]
theorem own46 : Own Try.prog 46 := ⟨Try.f46, Try.func46, by kernel_rfl, by kernel_rfl⟩
theorem own17 : Own Try.prog 17 := ⟨Try.f17, Try.func17, by kernel_rfl, by kernel_rfl⟩
theorem own47 : Own Try.prog 47 := ⟨Try.f47, Try.func47, by kernel_rfl, by kernel_rfl⟩
theorem own75 : Own Try.prog 75 := ⟨Try.f75, Try.func75, by kernel_rfl, by kernel_rfl⟩

theorem in_c (n least most : Int) (w0 : World) :
    CallsV Try.prog 46 [.int .i64 n, .int .i64 least, .int .i64 most] w0 (fun v w' => v = .bool (decide (least ≤ n ∧ n ≤ most)) ∧ Ext w0 w') := by
 have E0 := Upd.refl (fun _ => False) w0
 refine f_enter (N := 15) Try.func46 rfl rfl rfl (c_seq fun K1 hK1 => (c_region (t_assign rfl rfl rfl (t_nil' (hK1 _ _ (c_seq fun K2 hK2 => (c_region (t_move rfl rfl rfl (t_move rfl rfl rfl (t_cmp rfl rfl rfl rfl rfl (t_move rfl rfl rfl (t_splitp 10 rfl (fun g10 => ?_) (fun g10 => ?_)))))))))))))
 ·
  refine t_move rfl rfl rfl (t_move rfl rfl rfl (t_cmp rfl rfl rfl rfl rfl (t_pick_t rfl rfl rfl rfl (t_assign rfl rfl rfl (t_nil' (hK2 _ _ (c_ret (f_ret1 (v := .bool (decide (n ≤ most))) Try.results46 rfl ?_))))))))
  exact ⟨congrArg Value.bool (by first | (rw [decide_eq_decide]; omega) | (symm; rw [decide_eq_false_iff_not]; omega)), E0⟩
 refine t_skip rfl rfl rfl (t_skip rfl rfl rfl (t_skip rfl rfl rfl (t_pick_f rfl rfl rfl rfl (t_assign rfl rfl rfl (t_nil' (hK2 _ _ (c_ret (f_ret1 (v := .bool false) Try.results46 rfl ?_))))))))
 exact ⟨congrArg Value.bool (by first | (rw [decide_eq_decide]; omega) | (symm; rw [decide_eq_false_iff_not]; omega)), E0⟩

theorem rManifest_c (bs : List Bil) (ab : Option Addr) (bb ob cb : Nat) (hs : List Hld) (ah : Option Addr) (bh oh ch : Nat) (w0 : World) (hbs : Sl encBil 3 w0 ab bb ob bs) (hhs : Sl encHld 2 w0 ah bh oh hs) (hbl : bs.length ≤ 1000000) (hhl : hs.length ≤ 1000000) :
    CallsV Try.prog 17 [.agg #[.slice ab bs.length cb, .slice ah hs.length ch]] w0 (fun v w' => v = .bool (decide (chkM bs hs = 0)) ∧ Ext w0 w') := by
 refine f_enter (N := 67) Try.func17 rfl rfl rfl (c_seq fun K1 hK1 => (c_region (t_box (cs := [.slice ab bs.length cb, .slice ah hs.length ch]) rfl rfl rfl rfl (fun bk2 w3 ebk2 sbk2 B4 u5 => ?_))))
 have zu5 := u5.size
 have E6 := (Upd.refl (fun _ => False) w0).nx u5
 refine t_assign rfl rfl rfl (t_nil' (hK1 _ _ (c_seq fun K7 hK7 => (c_seq fun K8 hK8 => (c_region (t_field Try.underlying25 rfl Try.sizeOf22 (0) rfl rfl rfl rfl (t_load Try.isAgg22 rfl rfl rfl (B4.get rfl) (t_len Try.underlying22 rfl rfl rfl rfl (t_cmp rfl rfl rfl rfl rfl (t_move rfl rfl rfl (t_splitp 11 rfl (fun g11 => ?_) (fun g11 => ?_))))))))))))
 ·
  refine t_skip rfl rfl rfl (t_skip rfl rfl rfl (t_skip rfl rfl rfl (t_skip rfl rfl rfl (t_pick_t rfl rfl rfl rfl (t_nil' (hK8 _ _ (c_cond_t rfl (c_seq fun K9 hK9 => (c_region (t_assign rfl rfl rfl (t_nil' (hK9 _ _ (c_ret (f_ret1 (v := .bool false) Try.results17 rfl ?_))))))))))))))
  exact ⟨congrArg Value.bool (chkM_f (.inr (.inr (by omega)))).symm, E6⟩
 refine t_field Try.underlying25 rfl Try.sizeOf23 (1) rfl rfl rfl rfl (t_load Try.isAgg23 rfl rfl rfl (B4.get rfl) (t_len Try.underlying23 rfl rfl rfl rfl (t_cmp rfl rfl rfl rfl rfl (t_pick_f rfl rfl rfl rfl (t_nil' (hK8 _ _ (c_condp rfl (fun g16 => ?_) (fun g16 => ?_))))))))
 ·
  refine c_seq fun K10 hK10 => (c_region (t_assign rfl rfl rfl (t_nil' (hK10 _ _ (c_ret (f_ret1 (v := .bool false) Try.results17 rfl ?_))))))
  exact ⟨congrArg Value.bool (chkM_f (.inr (.inr (by omega)))).symm, E6⟩
 refine c_skip (hK7 _ _ (c_seq fun K11 hK11 => (c_seq fun K12 hK12 => (c_region (t_assign rfl rfl rfl (t_nil' (hK12 _ _ (c_block (c_loop (γ := Nat) (fun k => [(1, .pointer (some ⟨bk2, 0, none⟩)), (3, .int .i64 (k : Int))]) (fun k w => Upd (fun _ => False) w3 w ∧ (k ≤ bs.length) ∧ (((bs.take k).any fun b => !okBil b) = false)) (fun k => bs.length - k) 0 ⟨rfl, rfl, trivial⟩ ⟨Upd.refl _ _, (Nat.zero_le _), rfl⟩ ?_)))))))))
 intro k w14 hW K13 hK13
 obtain ⟨u15, I16, I17⟩ := hW
 have zu15 := u15.size
 have E18 := E6.nx u15
 have hk := I16; clear I16
 have hall := I17; clear I17
 refine c_seq fun K19 hK19 => (c_seq fun K20 hK20 => (c_region (t_move rfl rfl rfl (t_field Try.underlying25 rfl Try.sizeOf22 (0) rfl rfl rfl rfl ?_))))
 have B21 := (B4.kx u15)
 refine t_load Try.isAgg22 rfl rfl rfl (B21.get rfl) (t_len Try.underlying22 rfl rfl rfl rfl (t_cmp rfl rfl rfl rfl rfl (t_nil' (hK20 _ _ (c_condp rfl (fun g21 => ?_) (fun g21 => ?_))))))
 ·
  refine c_skip (hK19 _ _ (c_seq fun K22 hK22 => (c_block (c_seq fun K23 hK23 => (c_region (t_field Try.underlying25 rfl Try.sizeOf22 (0) rfl rfl rfl rfl (t_load Try.isAgg22 rfl rfl rfl (B21.get rfl) (t_move rfl rfl rfl ?_))))))))
  have i24 : k < bs.length := (by omega)
  refine t_index (j := k) Try.underlying22 Try.sizeOf93 rfl rfl rfl rfl ((hbs.keep E18 (fun _ h => h)).addr (by omega)) rfl i24 (t_loadN (vs := [.int .i64 ((nth bs k).tons), .int .i64 ((nth bs k).frm), .int .i64 ((nth bs k).to)]) Try.isAgg93 Try.sizeOf93 rfl rfl rfl (((hbs.keep E18 (fun _ h => h)).at_ k (by omega)).sub 0 3) rfl (t_alloc (cs := [.int .i64 0, .int .i64 0, .int .i64 0]) Try.zeroValue93 rfl rfl rfl (fun bk25 w26 ebk25 sbk25 B27 u28 => ?_)))
  have zu28 := u28.size
  refine t_st (vs := [.int .i64 ((nth bs k).tons), .int .i64 ((nth bs k).frm), .int .i64 ((nth bs k).to)]) Try.sizeOf93 rfl rfl rfl B27 rfl rfl rfl rfl (fun w30 sw30 B32 u31 => ?_)
  have zu31 := u31.size
  have B32 : Blk w30 bk25 93 [.int .i64 ((nth bs k).tons), .int .i64 ((nth bs k).frm), .int .i64 ((nth bs k).to)] := B32
  refine t_nil' (hK23 _ _ (c_seq fun K34 hK34 => (c_region (t_field Try.underlying93 rfl Try.sizeOf3 (0) rfl rfl rfl rfl (t_load Try.isAgg3 rfl rfl rfl (B32.get rfl) (t_call own46 rfl rfl rfl rfl (in_c ((nth bs k).tons) 1 1000000 _) (fun v35 w36 r38 => ?_)))))))
  obtain ⟨rfl, u37⟩ := r38
  have zu37 := u37.size
  have E39 := ((E18.nx u28).next u31 (fun i hi h => by omega)).nx u37
  refine t_notp rfl rfl rfl (t_move rfl rfl rfl (t_splitp 33 rfl (fun g33 => ?_) (fun g33 => ?_)))
  ·
   refine t_skip rfl rfl rfl (t_skip rfl rfl rfl (t_skip rfl rfl rfl (t_skip rfl rfl rfl (t_pick_t rfl rfl rfl rfl (t_move rfl rfl rfl (t_skip rfl rfl rfl (t_skip rfl rfl rfl (t_skip rfl rfl rfl (t_skip rfl rfl rfl (t_pick_t rfl rfl rfl rfl (t_nil' (hK34 _ _ (c_cond_t rfl (c_seq fun K40 hK40 => (c_region (t_assign rfl rfl rfl (t_nil' (hK40 _ _ (c_ret (f_ret1 (v := .bool false) Try.results17 rfl ?_))))))))))))))))))))
   exact ⟨congrArg Value.bool (chkM_f (.inl (any_nth (k := k) (by omega) (by show (!okBil (nth bs k)) = true; rw [show okBil (nth bs k) = false by unfold okBil; rw [decide_eq_false_iff_not]; omega]; rfl)))).symm, E39⟩
  refine t_field Try.underlying93 rfl Try.sizeOf3 (1) rfl rfl rfl rfl ?_
  have B41 := (B32.kx u37)
  refine t_load Try.isAgg3 rfl rfl rfl (B41.get rfl) (t_call own46 rfl rfl rfl rfl (in_c ((nth bs k).frm) 0 99 _) (fun v42 w43 r45 => ?_))
  obtain ⟨rfl, u44⟩ := r45
  have zu44 := u44.size
  have E46 := E39.nx u44
  refine t_notp rfl rfl rfl (t_pick_f rfl rfl rfl rfl (t_move rfl rfl rfl (t_splitp 39 rfl (fun g39 => ?_) (fun g39 => ?_))))
  ·
   refine t_skip rfl rfl rfl (t_skip rfl rfl rfl (t_skip rfl rfl rfl (t_skip rfl rfl rfl (t_pick_t rfl rfl rfl rfl (t_nil' (hK34 _ _ (c_cond_t rfl (c_seq fun K47 hK47 => (c_region (t_assign rfl rfl rfl (t_nil' (hK47 _ _ (c_ret (f_ret1 (v := .bool false) Try.results17 rfl ?_))))))))))))))
   exact ⟨congrArg Value.bool (chkM_f (.inl (any_nth (k := k) (by omega) (by show (!okBil (nth bs k)) = true; rw [show okBil (nth bs k) = false by unfold okBil; rw [decide_eq_false_iff_not]; omega]; rfl)))).symm, E46⟩
  refine t_field Try.underlying93 rfl Try.sizeOf3 (2) rfl rfl rfl rfl ?_
  have B48 := (B41.kx u44)
  refine t_load Try.isAgg3 rfl rfl rfl (B48.get rfl) (t_call own46 rfl rfl rfl rfl (in_c ((nth bs k).to) 0 99 _) (fun v49 w50 r52 => ?_))
  obtain ⟨rfl, u51⟩ := r52
  have zu51 := u51.size
  refine t_notp rfl rfl rfl (t_pick_f rfl rfl rfl rfl (t_nil' (hK34 _ _ (c_condp rfl (fun g44 => ?_) (fun g44 => ?_)))))
  ·
   refine c_seq fun K54 hK54 => (c_region (t_assign rfl rfl rfl (t_nil' (hK54 _ _ (c_ret (f_ret1 (v := .bool false) Try.results17 rfl ?_))))))
   exact ⟨congrArg Value.bool (chkM_f (.inl (any_nth (k := k) (by omega) (by show (!okBil (nth bs k)) = true; rw [show okBil (nth bs k) = false by unfold okBil; rw [decide_eq_false_iff_not]; omega]; rfl)))).symm, (E46.nx u51)⟩
  refine c_skip (hK22 _ _ (c_region (t_move rfl rfl rfl (t_ari rfl rfl rfl rfl rfl (by omega) (t_assign rfl rfl rfl (t_nil' ?_))))))
  exact hK13 (k + 1) _ _ (by omega) ⟨rfl, rfl, trivial⟩ ⟨(((((u15.next u28 (fun _ _ h => h.elim)).next u31 (fun i hi h => by omega)).next u37 (fun _ _ h => h.elim)).next u44 (fun _ _ h => h.elim)).next u51 (fun _ _ h => h.elim)), (by omega), (any_grow (by omega) hall (by show (!okBil (nth bs k)) = false; rw [show okBil (nth bs k) = true by unfold okBil; rw [decide_eq_true_eq]; omega]; rfl))⟩
 refine c_exit (hK11 _ _ (c_seq fun K55 hK55 => (c_seq fun K56 hK56 => (c_region (t_assign rfl rfl rfl (t_nil' (hK56 _ _ (c_block (c_loop (γ := Nat) (fun q => [(1, .pointer (some ⟨bk2, 0, none⟩)), (5, .int .i64 (q : Int))]) (fun q w => Upd (fun _ => False) w14 w ∧ (q ≤ hs.length) ∧ (((hs.take q).any fun h => !okHld h) = false)) (fun q => hs.length - q) 0 ⟨rfl, rfl, trivial⟩ ⟨Upd.refl _ _, (Nat.zero_le _), rfl⟩ ?_)))))))))
 intro q w58 hW K57 hK57
 obtain ⟨u59, I60, I61⟩ := hW
 have zu59 := u59.size
 have E62 := E18.nx u59
 have hq := I60; clear I60
 have hall2 := I61; clear I61
 refine c_seq fun K63 hK63 => (c_seq fun K64 hK64 => (c_region (t_move rfl rfl rfl (t_field Try.underlying25 rfl Try.sizeOf23 (1) rfl rfl rfl rfl ?_))))
 have B65 := (B21.kx u59)
 refine t_load Try.isAgg23 rfl rfl rfl (B65.get rfl) (t_len Try.underlying23 rfl rfl rfl rfl (t_cmp rfl rfl rfl rfl rfl (t_nil' (hK64 _ _ (c_condp rfl (fun g49 => ?_) (fun g49 => ?_))))))
 ·
  refine c_skip (hK63 _ _ (c_seq fun K66 hK66 => (c_block (c_seq fun K67 hK67 => (c_region (t_field Try.underlying25 rfl Try.sizeOf23 (1) rfl rfl rfl rfl (t_load Try.isAgg23 rfl rfl rfl (B65.get rfl) (t_move rfl rfl rfl ?_))))))))
  have i68 : q < hs.length := (by omega)
  refine t_index (j := q) Try.underlying23 Try.sizeOf90 rfl rfl rfl rfl ((hhs.keep E62 (fun _ h => h)).addr (by omega)) rfl i68 (t_loadN (vs := [.int .i64 ((nth hs q).hull), .int .i64 ((nth hs q).cap)]) Try.isAgg90 Try.sizeOf90 rfl rfl rfl (((hhs.keep E62 (fun _ h => h)).at_ q (by omega)).sub 0 2) rfl (t_alloc (cs := [.int .i64 0, .int .i64 0]) Try.zeroValue90 rfl rfl rfl (fun bk69 w70 ebk69 sbk69 B71 u72 => ?_)))
  have zu72 := u72.size
  refine t_st (vs := [.int .i64 ((nth hs q).hull), .int .i64 ((nth hs q).cap)]) Try.sizeOf90 rfl rfl rfl B71 rfl rfl rfl rfl (fun w74 sw74 B76 u75 => ?_)
  have zu75 := u75.size
  have B76 : Blk w74 bk69 90 [.int .i64 ((nth hs q).hull), .int .i64 ((nth hs q).cap)] := B76
  refine t_nil' (hK67 _ _ (c_seq fun K78 hK78 => (c_region (t_field Try.underlying90 rfl Try.sizeOf3 (0) rfl rfl rfl rfl (t_load Try.isAgg3 rfl rfl rfl (B76.get rfl) (t_call own46 rfl rfl rfl rfl (in_c ((nth hs q).hull) 0 19 _) (fun v79 w80 r82 => ?_)))))))
  obtain ⟨rfl, u81⟩ := r82
  have zu81 := u81.size
  have E83 := ((E62.nx u72).next u75 (fun i hi h => by omega)).nx u81
  refine t_notp rfl rfl rfl (t_move rfl rfl rfl (t_splitp 61 rfl (fun g61 => ?_) (fun g61 => ?_)))
  ·
   refine t_skip rfl rfl rfl (t_skip rfl rfl rfl (t_skip rfl rfl rfl (t_skip rfl rfl rfl (t_pick_t rfl rfl rfl rfl (t_nil' (hK78 _ _ (c_cond_t rfl (c_seq fun K84 hK84 => (c_region (t_assign rfl rfl rfl (t_nil' (hK84 _ _ (c_ret (f_ret1 (v := .bool false) Try.results17 rfl ?_))))))))))))))
   exact ⟨congrArg Value.bool (chkM_f (.inr (.inl (any_nth (k := q) (by omega) (by show (!okHld (nth hs q)) = true; rw [show okHld (nth hs q) = false by unfold okHld; rw [decide_eq_false_iff_not]; omega]; rfl))))).symm, E83⟩
  refine t_field Try.underlying90 rfl Try.sizeOf3 (1) rfl rfl rfl rfl ?_
  have B85 := (B76.kx u81)
  refine t_load Try.isAgg3 rfl rfl rfl (B85.get rfl) (t_call own46 rfl rfl rfl rfl (in_c ((nth hs q).cap) 0 1000000 _) (fun v86 w87 r89 => ?_))
  obtain ⟨rfl, u88⟩ := r89
  have zu88 := u88.size
  refine t_notp rfl rfl rfl (t_pick_f rfl rfl rfl rfl (t_nil' (hK78 _ _ (c_condp rfl (fun g66 => ?_) (fun g66 => ?_)))))
  ·
   refine c_seq fun K91 hK91 => (c_region (t_assign rfl rfl rfl (t_nil' (hK91 _ _ (c_ret (f_ret1 (v := .bool false) Try.results17 rfl ?_))))))
   exact ⟨congrArg Value.bool (chkM_f (.inr (.inl (any_nth (k := q) (by omega) (by show (!okHld (nth hs q)) = true; rw [show okHld (nth hs q) = false by unfold okHld; rw [decide_eq_false_iff_not]; omega]; rfl))))).symm, (E83.nx u88)⟩
  refine c_skip (hK66 _ _ (c_region (t_move rfl rfl rfl (t_ari rfl rfl rfl rfl rfl (by omega) (t_assign rfl rfl rfl (t_nil' ?_))))))
  exact hK57 (q + 1) _ _ (by omega) ⟨rfl, rfl, trivial⟩ ⟨((((u59.next u72 (fun _ _ h => h.elim)).next u75 (fun i hi h => by omega)).next u81 (fun _ _ h => h.elim)).next u88 (fun _ _ h => h.elim)), (by omega), (any_grow (by omega) hall2 (by show (!okHld (nth hs q)) = false; rw [show okHld (nth hs q) = true by unfold okHld; rw [decide_eq_true_eq]; omega]; rfl))⟩
 refine c_exit (hK55 _ _ (c_seq fun K92 hK92 => (c_region (t_assign rfl rfl rfl (t_nil' (hK92 _ _ (c_ret (f_ret1 (v := .bool true) Try.results17 rfl ?_))))))))
 exact ⟨congrArg Value.bool (chkM_t (by rw [List.take_of_length_le (by omega)] at hall; exact hall) (by rw [List.take_of_length_le (by omega)] at hall2; exact hall2) (by omega) (by omega)).symm, E62⟩

theorem rEvent_c (x : Ev) (w0 : World) :
    CallsV Try.prog 47 [.agg #[.int .i64 x.kind, .int .i64 x.minute, .int .i64 x.bill, .int .i64 x.frm, .int .i64 x.to, .int .i64 x.tons, .int .i64 x.port, .int .i64 x.sn]] w0 (fun v w' => v = .bool (okEv x) ∧ Ext w0 w') := by
 refine f_enter (N := 95) Try.func47 rfl rfl rfl (c_seq fun K1 hK1 => (c_region (t_box (cs := [.int .i64 x.kind, .int .i64 x.minute, .int .i64 x.bill, .int .i64 x.frm, .int .i64 x.to, .int .i64 x.tons, .int .i64 x.port, .int .i64 x.sn]) rfl rfl rfl rfl (fun bk2 w3 ebk2 sbk2 B4 u5 => ?_))))
 have zu5 := u5.size
 refine t_assign rfl rfl rfl (t_nil' (hK1 _ _ (c_seq fun K7 hK7 => (c_seq fun K8 hK8 => (c_region (t_field Try.underlying41 rfl Try.sizeOf3 (1) rfl rfl rfl rfl (t_load Try.isAgg3 rfl rfl rfl (B4.get rfl) (t_call own46 rfl rfl rfl rfl (in_c x.minute 0 1000000 _) (fun v9 w10 r12 => ?_)))))))))
 obtain ⟨rfl, u11⟩ := r12
 have zu11 := u11.size
 have E13 := ((Upd.refl (fun _ => False) w0).nx u5).nx u11
 refine t_notp rfl rfl rfl (t_move rfl rfl rfl (t_splitp 11 rfl (fun g11 => ?_) (fun g11 => ?_)))
 ·
  refine t_skip rfl rfl rfl (t_skip rfl rfl rfl (t_skip rfl rfl rfl (t_pick_t rfl rfl rfl rfl (t_move rfl rfl rfl (t_skip rfl rfl rfl (t_skip rfl rfl rfl (t_skip rfl rfl rfl (t_pick_t rfl rfl rfl rfl (t_move rfl rfl rfl (t_skip rfl rfl rfl (t_skip rfl rfl rfl (t_skip rfl rfl rfl (t_pick_t rfl rfl rfl rfl (t_nil' (hK8 _ _ (c_cond_t rfl (c_seq fun K14 hK14 => (c_region (t_assign rfl rfl rfl (t_nil' (hK14 _ _ (c_ret (f_ret1 (v := .bool false) Try.results47 rfl ?_)))))))))))))))))))))))
  exact ⟨congrArg Value.bool (by rw [Bool.eq_iff_iff]; simp [okEv, okEv0, okTons, okPort] <;> omega), E13⟩
 refine t_field Try.underlying41 rfl Try.sizeOf3 (2) rfl rfl rfl rfl ?_
 have B15 := (B4.kx u11)
 refine t_load Try.isAgg3 rfl rfl rfl (B15.get rfl) (t_cmp rfl rfl rfl rfl rfl (t_pick_f rfl rfl rfl rfl (t_move rfl rfl rfl (t_splitp 16 rfl (fun g16 => ?_) (fun g16 => ?_)))))
 ·
  refine t_skip rfl rfl rfl (t_skip rfl rfl rfl (t_skip rfl rfl rfl (t_pick_t rfl rfl rfl rfl (t_move rfl rfl rfl (t_skip rfl rfl rfl (t_skip rfl rfl rfl (t_skip rfl rfl rfl (t_pick_t rfl rfl rfl rfl (t_nil' (hK8 _ _ (c_cond_t rfl (c_seq fun K16 hK16 => (c_region (t_assign rfl rfl rfl (t_nil' (hK16 _ _ (c_ret (f_ret1 (v := .bool false) Try.results47 rfl ?_))))))))))))))))))
  exact ⟨congrArg Value.bool (by rw [Bool.eq_iff_iff]; simp [okEv, okEv0, okTons, okPort] <;> omega), E13⟩
 refine t_field Try.underlying41 rfl Try.sizeOf3 (3) rfl rfl rfl rfl (t_load Try.isAgg3 rfl rfl rfl (B15.get rfl) (t_cmp rfl rfl rfl rfl rfl (t_pick_f rfl rfl rfl rfl (t_move rfl rfl rfl (t_splitp 21 rfl (fun g21 => ?_) (fun g21 => ?_))))))
 ·
  refine t_skip rfl rfl rfl (t_skip rfl rfl rfl (t_skip rfl rfl rfl (t_pick_t rfl rfl rfl rfl (t_nil' (hK8 _ _ (c_cond_t rfl (c_seq fun K17 hK17 => (c_region (t_assign rfl rfl rfl (t_nil' (hK17 _ _ (c_ret (f_ret1 (v := .bool false) Try.results47 rfl ?_)))))))))))))
  exact ⟨congrArg Value.bool (by rw [Bool.eq_iff_iff]; simp [okEv, okEv0, okTons, okPort] <;> omega), E13⟩
 refine t_field Try.underlying41 rfl Try.sizeOf3 (4) rfl rfl rfl rfl (t_load Try.isAgg3 rfl rfl rfl (B15.get rfl) (t_cmp rfl rfl rfl rfl rfl (t_pick_f rfl rfl rfl rfl (t_nil' (hK8 _ _ (c_condp rfl (fun g25 => ?_) (fun g25 => ?_)))))))
 ·
  refine c_seq fun K18 hK18 => (c_region (t_assign rfl rfl rfl (t_nil' (hK18 _ _ (c_ret (f_ret1 (v := .bool false) Try.results47 rfl ?_))))))
  exact ⟨congrArg Value.bool (by rw [Bool.eq_iff_iff]; simp [okEv, okEv0, okTons, okPort] <;> omega), E13⟩
 refine c_skip (hK7 _ _ (c_seq fun K19 hK19 => (c_drawnQ follows (by kernel_rfl) (p_field Try.underlying41 rfl Try.sizeOf3 (5) rfl rfl rfl rfl (p_load Try.isAgg3 rfl rfl rfl (B15.get rfl) (p_call (v := .bool (decide (1 ≤ x.tons ∧ x.tons ≤ 1000000))) own46 rfl rfl rfl rfl (fun _ _ => (in_c x.tons 1 1000000 _)) (p_field Try.underlying41 rfl Try.sizeOf3 (6) rfl rfl rfl rfl (p_load Try.isAgg3 rfl rfl rfl (B15.get rfl) (p_call (v := .bool (decide (0 ≤ x.port ∧ x.port ≤ 99))) own46 rfl rfl rfl rfl (fun _ _ => (in_c x.port 0 99 _)) (p_field Try.underlying41 rfl Try.sizeOf3 (7) rfl rfl rfl rfl (p_load Try.isAgg3 rfl rfl rfl (B15.get rfl) (p_call (v := .bool (decide (1 ≤ x.sn ∧ x.sn ≤ 1000000))) own46 rfl rfl rfl rfl (fun _ _ => (in_c x.sn 1 1000000 _)) (p_assign rfl rfl rfl (p_assign rfl rfl rfl (p_assign rfl rfl rfl (p_nil fun w32 u33 => ?_))))))))))))))))
 have zu33 := u33.size
 refine t_nil' (hK19 _ _ (c_seq fun K35 hK35 => (c_region ?_)))
 have B36 := (B15.kx u33)
 refine t_loadN (vs := [.int .i64 x.kind, .int .i64 x.minute, .int .i64 x.bill, .int .i64 x.frm, .int .i64 x.to, .int .i64 x.tons, .int .i64 x.port, .int .i64 x.sn]) Try.isAgg41 Try.sizeOf41 rfl rfl rfl (B36.at.sub 0 8) rfl (t_alloc (cs := [.int .i64 0, .int .i64 0, .int .i64 0, .int .i64 0, .int .i64 0, .int .i64 0, .int .i64 0, .int .i64 0]) Try.zeroValue41 rfl rfl rfl (fun bk37 w38 ebk37 sbk37 B39 u40 => ?_))
 have zu40 := u40.size
 refine t_st (vs := [.int .i64 x.kind, .int .i64 x.minute, .int .i64 x.bill, .int .i64 x.frm, .int .i64 x.to, .int .i64 x.tons, .int .i64 x.port, .int .i64 x.sn]) Try.sizeOf41 rfl rfl rfl B39 rfl rfl rfl rfl (fun w42 sw42 B44 u43 => ?_)
 have zu43 := u43.size
 have B44 : Blk w42 bk37 41 [.int .i64 x.kind, .int .i64 x.minute, .int .i64 x.bill, .int .i64 x.frm, .int .i64 x.to, .int .i64 x.tons, .int .i64 x.port, .int .i64 x.sn] := B44
 refine t_nil' (hK35 _ _ (c_seq fun K46 hK46 => (c_region (t_field Try.underlying41 rfl Try.sizeOf3 (1) rfl rfl rfl rfl (t_st (vs := [.int .i64 0]) Try.sizeOf3 rfl rfl rfl B44 rfl rfl rfl rfl (fun w47 sw47 B49 u48 => ?_))))))
 have zu48 := u48.size
 have E50 := (((E13.nx u33).nx u40).next u43 (fun i hi h => by omega)).next u48 (fun i hi h => by omega)
 have B49 : Blk w47 bk37 41 [.int .i64 x.kind, .int .i64 0, .int .i64 x.bill, .int .i64 x.frm, .int .i64 x.to, .int .i64 x.tons, .int .i64 x.port, .int .i64 x.sn] := B49
 refine t_nil' (hK46 _ _ (c_seq fun K51 hK51 => (c_seq fun K52 hK52 => (c_region (t_field Try.underlying41 rfl Try.sizeOf39 (0) rfl rfl rfl rfl ?_)))))
 have B53 := (((B36.kx u40).keep u43 (by omega)).keep u48 (by omega))
 refine t_load Try.isAgg39 rfl rfl rfl (B53.get rfl) (t_nil' (hK52 _ _ (c_block (c_seq fun K54 hK54 => (c_region (t_cmp rfl rfl rfl rfl rfl (t_assign rfl rfl rfl (t_nil' (hK54 _ _ (c_condp rfl (fun g39 => ?_) (fun g39 => ?_)))))))))))
 ·
  refine c_seq fun K55 hK55 => (c_region (t_field Try.underlying41 rfl Try.sizeOf3 (2) rfl rfl rfl rfl (t_st (vs := [.int .i64 0]) Try.sizeOf3 rfl rfl rfl B49 rfl rfl rfl rfl (fun w56 sw56 B58 u57 => ?_))))
  have zu57 := u57.size
  have B58 : Blk w56 bk37 41 [.int .i64 x.kind, .int .i64 0, .int .i64 0, .int .i64 x.frm, .int .i64 x.to, .int .i64 x.tons, .int .i64 x.port, .int .i64 x.sn] := B58
  refine t_field Try.underlying41 rfl Try.sizeOf3 (4) rfl rfl rfl rfl (t_st (vs := [.int .i64 0]) Try.sizeOf3 rfl rfl rfl B58 rfl rfl rfl rfl (fun w60 sw60 B62 u61 => ?_))
  have zu61 := u61.size
  have B62 : Blk w60 bk37 41 [.int .i64 x.kind, .int .i64 0, .int .i64 0, .int .i64 x.frm, .int .i64 0, .int .i64 x.tons, .int .i64 x.port, .int .i64 x.sn] := B62
  refine t_field Try.underlying41 rfl Try.sizeOf3 (5) rfl rfl rfl rfl (t_st (vs := [.int .i64 0]) Try.sizeOf3 rfl rfl rfl B62 rfl rfl rfl rfl (fun w64 sw64 B66 u65 => ?_))
  have zu65 := u65.size
  have B66 : Blk w64 bk37 41 [.int .i64 x.kind, .int .i64 0, .int .i64 0, .int .i64 x.frm, .int .i64 0, .int .i64 0, .int .i64 x.port, .int .i64 x.sn] := B66
  refine t_field Try.underlying41 rfl Try.sizeOf3 (6) rfl rfl rfl rfl (t_st (vs := [.int .i64 0]) Try.sizeOf3 rfl rfl rfl B66 rfl rfl rfl rfl (fun w68 sw68 B70 u69 => ?_))
  have zu69 := u69.size
  have E71 := (((E50.next u57 (fun i hi h => by omega)).next u61 (fun i hi h => by omega)).next u65 (fun i hi h => by omega)).next u69 (fun i hi h => by omega)
  have B70 : Blk w68 bk37 41 [.int .i64 x.kind, .int .i64 0, .int .i64 0, .int .i64 x.frm, .int .i64 0, .int .i64 0, .int .i64 0, .int .i64 x.sn] := B70
  refine t_nil' (hK55 _ _ (c_seq fun K72 hK72 => (c_region (t_move rfl rfl rfl (t_move rfl rfl rfl (t_splitp 46 rfl (fun g46 => ?_) (fun g46 => ?_)))))))
  ·
   refine t_move rfl rfl rfl (t_pick_t rfl rfl rfl rfl (t_move rfl rfl rfl (t_splitp 49 rfl (fun g49 => ?_) (fun g49 => ?_))))
   ·
    refine t_loadN (vs := [.int .i64 x.kind, .int .i64 0, .int .i64 0, .int .i64 x.frm, .int .i64 0, .int .i64 0, .int .i64 0, .int .i64 x.sn]) Try.isAgg41 Try.sizeOf41 rfl rfl rfl (B70.at.sub 0 8) rfl (t_build (ps := [(0, .int .i64 1)]) (v := .agg #[.int .i64 1, .int .i64 0, .int .i64 0, .int .i64 0, .int .i64 0, .int .i64 0, .int .i64 0, .int .i64 0]) rfl rfl ⟨rfl, rfl⟩ (fun w => by kernel_rfl) (t_eqS (xs := [.int .i64 x.kind, .int .i64 0, .int .i64 0, .int .i64 x.frm, .int .i64 0, .int .i64 0, .int .i64 0, .int .i64 x.sn]) (ys := [.int .i64 1, .int .i64 0, .int .i64 0, .int .i64 0, .int .i64 0, .int .i64 0, .int .i64 0, .int .i64 0]) (by kernel_rfl) (eqIn41 9998 x.kind 0 0 x.frm 0 0 0 x.sn 1 0 0 0 0 0 0 0) rfl rfl rfl rfl (t_pick_t rfl rfl rfl rfl (t_assign rfl rfl rfl (t_nil' (hK72 _ _ (c_ret (f_ret1 (v := .bool (decide (x.kind = 1) && decide (0 = 0) && decide (0 = 0) && decide (x.frm = 0) && decide (0 = 0) && decide (0 = 0) && decide (0 = 0) && decide (x.sn = 0))) Try.results47 rfl ?_))))))))
    exact ⟨congrArg Value.bool (by rw [Bool.eq_iff_iff]; simp [okEv, okEv0, okTons, okPort] <;> omega), E71⟩
   refine t_skip rfl rfl rfl (t_skip rfl rfl rfl (t_skip rfl rfl rfl (t_pick_f rfl rfl rfl rfl (t_assign rfl rfl rfl (t_nil' (hK72 _ _ (c_ret (f_ret1 (v := .bool false) Try.results47 rfl ?_))))))))
   exact ⟨congrArg Value.bool (by rw [Bool.eq_iff_iff]; simp [okEv, okEv0, okTons, okPort] <;> omega), E71⟩
  refine t_skip rfl rfl rfl (t_pick_f rfl rfl rfl rfl (t_move rfl rfl rfl (t_skip rfl rfl rfl (t_skip rfl rfl rfl (t_skip rfl rfl rfl (t_pick_f rfl rfl rfl rfl (t_assign rfl rfl rfl (t_nil' (hK72 _ _ (c_ret (f_ret1 (v := .bool false) Try.results47 rfl ?_)))))))))))
  exact ⟨congrArg Value.bool (by rw [Bool.eq_iff_iff]; simp [okEv, okEv0, okTons, okPort] <;> omega), E71⟩
 refine c_seq fun K73 hK73 => (c_region (t_cmp rfl rfl rfl rfl rfl (t_assign rfl rfl rfl (t_nil' (hK73 _ _ (c_condp rfl (fun g54 => ?_) (fun g54 => ?_)))))))
 ·
  refine c_seq fun K74 hK74 => (c_region (t_field Try.underlying41 rfl Try.sizeOf3 (3) rfl rfl rfl rfl (t_st (vs := [.int .i64 0]) Try.sizeOf3 rfl rfl rfl B49 rfl rfl rfl rfl (fun w75 sw75 B77 u76 => ?_))))
  have zu76 := u76.size
  have B77 : Blk w75 bk37 41 [.int .i64 x.kind, .int .i64 0, .int .i64 x.bill, .int .i64 0, .int .i64 x.to, .int .i64 x.tons, .int .i64 x.port, .int .i64 x.sn] := B77
  refine t_field Try.underlying41 rfl Try.sizeOf3 (4) rfl rfl rfl rfl (t_st (vs := [.int .i64 0]) Try.sizeOf3 rfl rfl rfl B77 rfl rfl rfl rfl (fun w79 sw79 B81 u80 => ?_))
  have zu80 := u80.size
  have B81 : Blk w79 bk37 41 [.int .i64 x.kind, .int .i64 0, .int .i64 x.bill, .int .i64 0, .int .i64 0, .int .i64 x.tons, .int .i64 x.port, .int .i64 x.sn] := B81
  refine t_field Try.underlying41 rfl Try.sizeOf3 (5) rfl rfl rfl rfl (t_st (vs := [.int .i64 0]) Try.sizeOf3 rfl rfl rfl B81 rfl rfl rfl rfl (fun w83 sw83 B85 u84 => ?_))
  have zu84 := u84.size
  have E86 := ((E50.next u76 (fun i hi h => by omega)).next u80 (fun i hi h => by omega)).next u84 (fun i hi h => by omega)
  have B85 : Blk w83 bk37 41 [.int .i64 x.kind, .int .i64 0, .int .i64 x.bill, .int .i64 0, .int .i64 0, .int .i64 0, .int .i64 x.port, .int .i64 x.sn] := B85
  refine t_nil' (hK74 _ _ (c_seq fun K87 hK87 => (c_region (t_move rfl rfl rfl (t_move rfl rfl rfl (t_splitp 60 rfl (fun g60 => ?_) (fun g60 => ?_)))))))
  ·
   refine t_loadN (vs := [.int .i64 x.kind, .int .i64 0, .int .i64 x.bill, .int .i64 0, .int .i64 0, .int .i64 0, .int .i64 x.port, .int .i64 x.sn]) Try.isAgg41 Try.sizeOf41 rfl rfl rfl (B85.at.sub 0 8) rfl (t_build (ps := [(0, .int .i64 2)]) (v := .agg #[.int .i64 2, .int .i64 0, .int .i64 0, .int .i64 0, .int .i64 0, .int .i64 0, .int .i64 0, .int .i64 0]) rfl rfl ⟨rfl, rfl⟩ (fun w => by kernel_rfl) (t_eqS (xs := [.int .i64 x.kind, .int .i64 0, .int .i64 x.bill, .int .i64 0, .int .i64 0, .int .i64 0, .int .i64 x.port, .int .i64 x.sn]) (ys := [.int .i64 2, .int .i64 0, .int .i64 0, .int .i64 0, .int .i64 0, .int .i64 0, .int .i64 0, .int .i64 0]) (by kernel_rfl) (eqIn41 9998 x.kind 0 x.bill 0 0 0 x.port x.sn 2 0 0 0 0 0 0 0) rfl rfl rfl rfl (t_pick_t rfl rfl rfl rfl (t_assign rfl rfl rfl (t_nil' (hK87 _ _ (c_ret (f_ret1 (v := .bool (decide (x.kind = 2) && decide (0 = 0) && decide (x.bill = 0) && decide (0 = 0) && decide (0 = 0) && decide (0 = 0) && decide (x.port = 0) && decide (x.sn = 0))) Try.results47 rfl ?_))))))))
   exact ⟨congrArg Value.bool (by rw [Bool.eq_iff_iff]; simp [okEv, okEv0, okTons, okPort] <;> omega), E86⟩
  refine t_skip rfl rfl rfl (t_skip rfl rfl rfl (t_skip rfl rfl rfl (t_pick_f rfl rfl rfl rfl (t_assign rfl rfl rfl (t_nil' (hK87 _ _ (c_ret (f_ret1 (v := .bool false) Try.results47 rfl ?_))))))))
  exact ⟨congrArg Value.bool (by rw [Bool.eq_iff_iff]; simp [okEv, okEv0, okTons, okPort] <;> omega), E86⟩
 refine c_seq fun K88 hK88 => (c_region (t_cmp rfl rfl rfl rfl rfl (t_assign rfl rfl rfl (t_nil' (hK88 _ _ (c_condp rfl (fun g65 => ?_) (fun g65 => ?_)))))))
 ·
  refine c_seq fun K89 hK89 => (c_region (t_field Try.underlying41 rfl Try.sizeOf3 (3) rfl rfl rfl rfl (t_st (vs := [.int .i64 0]) Try.sizeOf3 rfl rfl rfl B49 rfl rfl rfl rfl (fun w90 sw90 B92 u91 => ?_))))
  have zu91 := u91.size
  have B92 : Blk w90 bk37 41 [.int .i64 x.kind, .int .i64 0, .int .i64 x.bill, .int .i64 0, .int .i64 x.to, .int .i64 x.tons, .int .i64 x.port, .int .i64 x.sn] := B92
  refine t_field Try.underlying41 rfl Try.sizeOf3 (5) rfl rfl rfl rfl (t_st (vs := [.int .i64 0]) Try.sizeOf3 rfl rfl rfl B92 rfl rfl rfl rfl (fun w94 sw94 B96 u95 => ?_))
  have zu95 := u95.size
  have B96 : Blk w94 bk37 41 [.int .i64 x.kind, .int .i64 0, .int .i64 x.bill, .int .i64 0, .int .i64 x.to, .int .i64 0, .int .i64 x.port, .int .i64 x.sn] := B96
  refine t_field Try.underlying41 rfl Try.sizeOf3 (6) rfl rfl rfl rfl (t_st (vs := [.int .i64 0]) Try.sizeOf3 rfl rfl rfl B96 rfl rfl rfl rfl (fun w98 sw98 B100 u99 => ?_))
  have zu99 := u99.size
  have E101 := ((E50.next u91 (fun i hi h => by omega)).next u95 (fun i hi h => by omega)).next u99 (fun i hi h => by omega)
  have B100 : Blk w98 bk37 41 [.int .i64 x.kind, .int .i64 0, .int .i64 x.bill, .int .i64 0, .int .i64 x.to, .int .i64 0, .int .i64 0, .int .i64 x.sn] := B100
  refine t_nil' (hK89 _ _ (c_seq fun K102 hK102 => (c_region (t_move rfl rfl rfl (t_move rfl rfl rfl (t_splitp 71 rfl (fun g71 => ?_) (fun g71 => ?_)))))))
  ·
   refine t_move rfl rfl rfl (t_pick_t rfl rfl rfl rfl (t_move rfl rfl rfl (t_splitp 74 rfl (fun g74 => ?_) (fun g74 => ?_))))
   ·
    refine t_loadN (vs := [.int .i64 x.kind, .int .i64 0, .int .i64 x.bill, .int .i64 0, .int .i64 x.to, .int .i64 0, .int .i64 0, .int .i64 x.sn]) Try.isAgg41 Try.sizeOf41 rfl rfl rfl (B100.at.sub 0 8) rfl (t_build (ps := [(0, .int .i64 3)]) (v := .agg #[.int .i64 3, .int .i64 0, .int .i64 0, .int .i64 0, .int .i64 0, .int .i64 0, .int .i64 0, .int .i64 0]) rfl rfl ⟨rfl, rfl⟩ (fun w => by kernel_rfl) (t_eqS (xs := [.int .i64 x.kind, .int .i64 0, .int .i64 x.bill, .int .i64 0, .int .i64 x.to, .int .i64 0, .int .i64 0, .int .i64 x.sn]) (ys := [.int .i64 3, .int .i64 0, .int .i64 0, .int .i64 0, .int .i64 0, .int .i64 0, .int .i64 0, .int .i64 0]) (by kernel_rfl) (eqIn41 9998 x.kind 0 x.bill 0 x.to 0 0 x.sn 3 0 0 0 0 0 0 0) rfl rfl rfl rfl (t_pick_t rfl rfl rfl rfl (t_assign rfl rfl rfl (t_nil' (hK102 _ _ (c_ret (f_ret1 (v := .bool (decide (x.kind = 3) && decide (0 = 0) && decide (x.bill = 0) && decide (0 = 0) && decide (x.to = 0) && decide (0 = 0) && decide (0 = 0) && decide (x.sn = 0))) Try.results47 rfl ?_))))))))
    exact ⟨congrArg Value.bool (by rw [Bool.eq_iff_iff]; simp [okEv, okEv0, okTons, okPort] <;> omega), E101⟩
   refine t_skip rfl rfl rfl (t_skip rfl rfl rfl (t_skip rfl rfl rfl (t_pick_f rfl rfl rfl rfl (t_assign rfl rfl rfl (t_nil' (hK102 _ _ (c_ret (f_ret1 (v := .bool false) Try.results47 rfl ?_))))))))
   exact ⟨congrArg Value.bool (by rw [Bool.eq_iff_iff]; simp [okEv, okEv0, okTons, okPort] <;> omega), E101⟩
  refine t_skip rfl rfl rfl (t_pick_f rfl rfl rfl rfl (t_move rfl rfl rfl (t_skip rfl rfl rfl (t_skip rfl rfl rfl (t_skip rfl rfl rfl (t_pick_f rfl rfl rfl rfl (t_assign rfl rfl rfl (t_nil' (hK102 _ _ (c_ret (f_ret1 (v := .bool false) Try.results47 rfl ?_)))))))))))
  exact ⟨congrArg Value.bool (by rw [Bool.eq_iff_iff]; simp [okEv, okEv0, okTons, okPort] <;> omega), E101⟩
 refine c_seq fun K103 hK103 => (c_region (t_cmp rfl rfl rfl rfl rfl (t_assign rfl rfl rfl (t_nil' (hK103 _ _ (c_condp rfl (fun g79 => ?_) (fun g79 => ?_)))))))
 ·
  refine c_seq fun K104 hK104 => (c_region (t_field Try.underlying41 rfl Try.sizeOf3 (4) rfl rfl rfl rfl (t_st (vs := [.int .i64 0]) Try.sizeOf3 rfl rfl rfl B49 rfl rfl rfl rfl (fun w105 sw105 B107 u106 => ?_))))
  have zu106 := u106.size
  have B107 : Blk w105 bk37 41 [.int .i64 x.kind, .int .i64 0, .int .i64 x.bill, .int .i64 x.frm, .int .i64 0, .int .i64 x.tons, .int .i64 x.port, .int .i64 x.sn] := B107
  refine t_field Try.underlying41 rfl Try.sizeOf3 (7) rfl rfl rfl rfl (t_st (vs := [.int .i64 0]) Try.sizeOf3 rfl rfl rfl B107 rfl rfl rfl rfl (fun w109 sw109 B111 u110 => ?_))
  have zu110 := u110.size
  have E112 := (E50.next u106 (fun i hi h => by omega)).next u110 (fun i hi h => by omega)
  have B111 : Blk w109 bk37 41 [.int .i64 x.kind, .int .i64 0, .int .i64 x.bill, .int .i64 x.frm, .int .i64 0, .int .i64 x.tons, .int .i64 x.port, .int .i64 0] := B111
  refine t_nil' (hK104 _ _ (c_seq fun K113 hK113 => (c_region (t_move rfl rfl rfl (t_move rfl rfl rfl (t_splitp 84 rfl (fun g84 => ?_) (fun g84 => ?_)))))))
  ·
   refine t_loadN (vs := [.int .i64 x.kind, .int .i64 0, .int .i64 x.bill, .int .i64 x.frm, .int .i64 0, .int .i64 x.tons, .int .i64 x.port, .int .i64 0]) Try.isAgg41 Try.sizeOf41 rfl rfl rfl (B111.at.sub 0 8) rfl (t_build (ps := [(0, .int .i64 4)]) (v := .agg #[.int .i64 4, .int .i64 0, .int .i64 0, .int .i64 0, .int .i64 0, .int .i64 0, .int .i64 0, .int .i64 0]) rfl rfl ⟨rfl, rfl⟩ (fun w => by kernel_rfl) (t_eqS (xs := [.int .i64 x.kind, .int .i64 0, .int .i64 x.bill, .int .i64 x.frm, .int .i64 0, .int .i64 x.tons, .int .i64 x.port, .int .i64 0]) (ys := [.int .i64 4, .int .i64 0, .int .i64 0, .int .i64 0, .int .i64 0, .int .i64 0, .int .i64 0, .int .i64 0]) (by kernel_rfl) (eqIn41 9998 x.kind 0 x.bill x.frm 0 x.tons x.port 0 4 0 0 0 0 0 0 0) rfl rfl rfl rfl (t_pick_t rfl rfl rfl rfl (t_assign rfl rfl rfl (t_nil' (hK113 _ _ (c_ret (f_ret1 (v := .bool (decide (x.kind = 4) && decide (0 = 0) && decide (x.bill = 0) && decide (x.frm = 0) && decide (0 = 0) && decide (x.tons = 0) && decide (x.port = 0) && decide (0 = 0))) Try.results47 rfl ?_))))))))
   exact ⟨congrArg Value.bool (by rw [Bool.eq_iff_iff]; simp [okEv, okEv0, okTons, okPort] <;> omega), E112⟩
  refine t_skip rfl rfl rfl (t_skip rfl rfl rfl (t_skip rfl rfl rfl (t_pick_f rfl rfl rfl rfl (t_assign rfl rfl rfl (t_nil' (hK113 _ _ (c_ret (f_ret1 (v := .bool false) Try.results47 rfl ?_))))))))
  exact ⟨congrArg Value.bool (by rw [Bool.eq_iff_iff]; simp [okEv, okEv0, okTons, okPort] <;> omega), E112⟩
 refine c_seq fun K114 hK114 => (c_region (t_cmp rfl rfl rfl rfl rfl (t_assign rfl rfl rfl (t_nil' (hK114 _ _ (c_condp rfl (fun g89 => ?_) (fun g89 => ?_)))))))
 ·
  refine c_seq fun K115 hK115 => (c_region (t_field Try.underlying41 rfl Try.sizeOf3 (3) rfl rfl rfl rfl (t_st (vs := [.int .i64 0]) Try.sizeOf3 rfl rfl rfl B49 rfl rfl rfl rfl (fun w116 sw116 B118 u117 => ?_))))
  have zu117 := u117.size
  have B118 : Blk w116 bk37 41 [.int .i64 x.kind, .int .i64 0, .int .i64 x.bill, .int .i64 0, .int .i64 x.to, .int .i64 x.tons, .int .i64 x.port, .int .i64 x.sn] := B118
  refine t_nil' (hK115 _ _ (c_seq fun K120 hK120 => (c_region (t_loadN (vs := [.int .i64 x.kind, .int .i64 0, .int .i64 x.bill, .int .i64 0, .int .i64 x.to, .int .i64 x.tons, .int .i64 x.port, .int .i64 x.sn]) Try.isAgg41 Try.sizeOf41 rfl rfl rfl (B118.at.sub 0 8) rfl (t_build (ps := [(0, .int .i64 5)]) (v := .agg #[.int .i64 5, .int .i64 0, .int .i64 0, .int .i64 0, .int .i64 0, .int .i64 0, .int .i64 0, .int .i64 0]) rfl rfl ⟨rfl, rfl⟩ (fun w => by kernel_rfl) (t_eqS (xs := [.int .i64 x.kind, .int .i64 0, .int .i64 x.bill, .int .i64 0, .int .i64 x.to, .int .i64 x.tons, .int .i64 x.port, .int .i64 x.sn]) (ys := [.int .i64 5, .int .i64 0, .int .i64 0, .int .i64 0, .int .i64 0, .int .i64 0, .int .i64 0, .int .i64 0]) (by kernel_rfl) (eqIn41 9998 x.kind 0 x.bill 0 x.to x.tons x.port x.sn 5 0 0 0 0 0 0 0) rfl rfl rfl rfl (t_assign rfl rfl rfl (t_nil' (hK120 _ _ (c_ret (f_ret1 (v := .bool (decide (x.kind = 5) && decide (0 = 0) && decide (x.bill = 0) && decide (0 = 0) && decide (x.to = 0) && decide (x.tons = 0) && decide (x.port = 0) && decide (x.sn = 0))) Try.results47 rfl ?_)))))))))))
  exact ⟨congrArg Value.bool (by rw [Bool.eq_iff_iff]; simp [okEv, okEv0, okTons, okPort] <;> omega), (E50.next u117 (fun i hi h => by omega))⟩
 refine c_skip (hK51 _ _ (c_seq fun K121 hK121 => (c_region (t_assign rfl rfl rfl (t_nil' (hK121 _ _ (c_ret (f_ret1 (v := .bool false) Try.results47 rfl ?_))))))))
 exact ⟨congrArg Value.bool (by rw [Bool.eq_iff_iff]; simp [okEv, okEv0, okTons, okPort] <;> omega), E50⟩

theorem rTons_c (xs : List HLay) (ao : Option Addr) (b o cap : Nat) (w0 : World) (hs : Sl encHLay 3 w0 ao b o xs) (hl : xs.length ≤ 1000000) (ht : ∀ x ∈ xs, 0 ≤ x.v.tons ∧ x.v.tons ≤ 1000000) :
    CallsV Try.prog 75 [.slice ao xs.length cap] w0 (fun v w' => v = .int .i64 (sumT (xs.map HLay.v)) ∧ Ext w0 w') := by
 refine f_enter (N := 19) Try.func75 rfl rfl rfl (c_seq fun K1 hK1 => (c_region (t_assign rfl rfl rfl (t_nil' (hK1 _ _ (c_seq fun K2 hK2 => (c_region (t_assign rfl rfl rfl (t_nil' (hK2 _ _ (c_seq fun K3 hK3 => (c_seq fun K4 hK4 => (c_region (t_assign rfl rfl rfl (t_nil' (hK4 _ _ (c_block (c_loop (γ := Nat) (fun k => [(0, .slice ao xs.length cap), (3, .int .i64 (sumT ((xs.take k).map HLay.v))), (4, .int .i64 (k : Int))]) (fun k w => Upd (fun _ => False) w0 w ∧ (k ≤ xs.length) ∧ (0 ≤ sumT ((xs.take k).map HLay.v) ∧ sumT ((xs.take k).map HLay.v) ≤ 1000000 * k)) (fun k => xs.length - k) 0 ⟨rfl, rfl, rfl, trivial⟩ ⟨Upd.refl _ _, (Nat.zero_le _), (by simp [sumT])⟩ ?_))))))))))))))))))
 intro k w6 hW K5 hK5
 obtain ⟨u7, I8, I9⟩ := hW
 have zu7 := u7.size
 have E10 := (Upd.refl (fun _ => False) w0).nx u7
 have hk := I8; clear I8
 have hsum := I9; clear I9
 refine c_seq fun K11 hK11 => (c_seq fun K12 hK12 => (c_region (t_move rfl rfl rfl (t_move rfl rfl rfl (t_len Try.underlying36 rfl rfl rfl rfl (t_cmp rfl rfl rfl rfl rfl (t_nil' (hK12 _ _ (c_condp rfl (fun g8 => ?_) (fun g8 => ?_))))))))))
 ·
  refine c_skip (hK11 _ _ (c_seq fun K13 hK13 => (c_block (c_region (t_move rfl rfl rfl (t_move rfl rfl rfl (t_move rfl rfl rfl ?_)))))))
  have i14 : k < xs.length := (by omega)
  refine t_index (j := k) Try.underlying36 Try.sizeOf97 rfl rfl rfl rfl ((hs.keep E10 (fun _ h => h)).addr (by omega)) rfl i14 (t_field Try.underlying97 rfl Try.sizeOf3 (o + k * 3 + 1) rfl rfl rfl rfl (t_load Try.isAgg3 rfl rfl rfl (((hs.keep E10 (fun _ h => h)).at_ k (by omega)) 1 _ rfl) ?_))
  have htk := ht _ (nth_mem (xs := xs) (i := k) (by omega))
  refine t_ari rfl rfl rfl rfl rfl (by omega) (t_assign rfl rfl rfl (t_nil' (hK13 _ _ (c_region (t_move rfl rfl rfl (t_ari rfl rfl rfl rfl rfl (by omega) (t_assign rfl rfl rfl (t_nil' ?_))))))))
  exact hK5 (k + 1) _ _ (by omega) ⟨rfl, (congrArg some (congrArg (Value.int .i64) (by rw [takeT (by omega), sumT_snoc]))), rfl, trivial⟩ ⟨u7, (by omega), (by rw [takeT (by omega), sumT_snoc]; have htk := ht _ (nth_mem (xs := xs) (i := k) (by omega)); omega)⟩
 refine c_exit (hK3 _ _ (c_seq fun K15 hK15 => (c_region (t_move rfl rfl rfl (t_assign rfl rfl rfl (t_nil' (hK15 _ _ (c_ret (f_ret1 (v := .int .i64 (sumT ((xs.take k).map HLay.v))) Try.results75 rfl ?_)))))))))
 exact ⟨by rw [List.take_of_length_le (by omega)], E10⟩

end Go.Proofs.Ytgkkgpenmppjcaa
