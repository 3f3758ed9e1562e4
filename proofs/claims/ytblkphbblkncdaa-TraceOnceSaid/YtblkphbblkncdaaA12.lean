/-
  The contract of sail. Conditions: none.
-/
import Derived.Test.YtblkphbblkncdaaA11
namespace Go.Proofs.Ytblkphbblkncdaa
open Go Go.RowKit

/-- The voyage before all events, with these holds. -/
def mkV (bs : List Bil) (ab : Option Addr) (bb ob cb : Nat) (hs : List Hld) (ah : Option Addr) (ch lb r : Nat) (hl : List HG) (pa : Option Addr) (pg pc : Nat) : VG :=
  ⟨bs, ab, bb, ob, cb, hs, ah, ch, hl, pa, pg, pc, List.replicate bs.length 0, lb, [], r, [], none, 0, 0, 0⟩
theorem Voy.addHold {base pv : Nat} {w w' : World} {V : VG} (h : Voy base pv w V) (hld : V.ld = []) {pa : Option Addr} {pg pc : Nat} {q : HG} (hq : q.xs = [] ∧ q.ao = none ∧ q.g = 0 ∧ q.cp = 0) (hb0 : 0 < base) (u : Upd (fun k => k = pv ∨ (k = V.pg ∧ base ≤ k)) w w')
    (hb : Blk w' pv 118 { V with hl := V.hl ++ [q], pa := pa, pg := pg, pc := pc }.cells) (ha : Acc encPt 1 119 base w' pa pg pc (V.hl ++ [q])) (hp : Blk w' q.p 122 q.cells) (hpg : w.heap.size ≤ q.p) (hbw : base ≤ w.heap.size) : Voy base pv w' { V with hl := V.hl ++ [q], pa := pa, pg := pg, pc := pc } := by
  have n := h.vne h.blk
  have m : base ≤ V.pg → VNe base pv V V.pg 119 := fun hg => by obtain ⟨_, hc⟩ := h.pacc.own hg; exact h.vne hc
  have no : ∀ k, k ≠ pv → (base ≤ V.pg → k ≠ V.pg) → ¬ (k = pv ∨ (k = V.pg ∧ base ≤ k)) := fun k h1 h2 e => by
    rcases e with e | e
    · exact h1 e
    · exact h2 (by omega) e.1
  obtain ⟨x1, x2, x3, x4⟩ := hq
  have hqm : HoldM base w' V.lb q := ⟨hp, by omega, by rw [x1, x2, x3, x4]; exact Acc.nil _ _ _ _ _ hb0 (by have := u.size; omega), by rw [x1]; exact fun x hx => by cases hx⟩
  have len : (V.hl ++ [q]).length = V.hl.length + 1 := by simp
  have old : ∀ j, j < V.hl.length → nth (V.hl ++ [q]) j = nth V.hl j := fun j hj => by simp [nth, List.getD_eq_getElem?_getD, List.getElem?_append_left hj]
  have new : nth (V.hl ++ [q]) V.hl.length = q := by simp [nth, List.getD_eq_getElem?_getD]
  refine ⟨h.pge, hb, h.bil.keep u (fun hq => no _ (n.bb h.pge hq) (fun hg => (m hg).bb hg hq)), h.bold, ha, fun x hx => ?_, fun i j hij hj => ?_, fun i j hij hj => ?_, h.lblk.keep u (no _ (n.lb (by decide)) (fun hd => (m hd).lb (by decide))), h.lge, h.seals.keep u (no _ n.r (fun hd => (m hd).r)), h.rge, h.dacc.keep u (fun hg => no _ (n.dg (by decide) hg) (fun hd => (m hd).dg (by decide) hg)), fun x hx => ?_, fun x hx => ?_⟩
  · rcases List.mem_append.1 hx with hx | hx
    · exact (h.hold x hx).keep u (no _ (n.hp (by decide) x hx) (fun hd => (m hd).hp (by decide) x hx)) (fun hg => no _ (n.hg (by decide) x hx hg) (fun hd => (m hd).hg (by decide) x hx hg)) (fun y hy hg => no _ (n.hx (by decide) x hx y hy hg) (fun hd => (m hd).hx (by decide) x hx y hy hg))
    · have : x = q := by simpa using hx
      subst this; exact hqm
  · show (nth (V.hl ++ [q]) i).p ≠ (nth (V.hl ++ [q]) j).p
    have hj2 : j < V.hl.length + 1 := by rw [← len]; exact hj
    rw [old i (by omega)]
    have hi2 := (h.hold _ (nth_mem (xs := V.hl) (i := i) (by omega))).blk.lt
    rcases Nat.lt_or_ge j V.hl.length with h1 | h1
    · rw [old j h1]; exact h.pne i j hij h1
    · have e : j = V.hl.length := by omega
      rw [e, new]; omega
  · show base ≤ (nth (V.hl ++ [q]) i).g → (nth (V.hl ++ [q]) i).g ≠ (nth (V.hl ++ [q]) j).g
    have hj2 : j < V.hl.length + 1 := by rw [← len]; exact hj
    rw [old i (by omega)]
    rcases Nat.lt_or_ge j V.hl.length with h1 | h1
    · rw [old j h1]; exact h.gne i j hij h1
    · have e : j = V.hl.length := by omega
      rw [e, new]; intro hg; omega
  · rw [show ({ V with hl := V.hl ++ [q], pa := pa, pg := pg, pc := pc } : VG).ld = [] from hld] at hx; cases hx
  · rw [show ({ V with hl := V.hl ++ [q], pa := pa, pg := pg, pc := pc } : VG).ld = [] from hld] at hx; cases hx
def emptyS (nb nh : Nat) : Stt := ⟨List.replicate nh [], List.replicate nh false, [], List.replicate nb 0, []⟩
/-- The events from the i-th on: what they have done, or the first that cannot happen and its error. -/
def runE (bs : List Bil) (caps : List Int) : List Ev → Nat → Stt → Int → Stt × Int × Int
  | [], _, S, _ => (S, 0, 0)
  | x :: l, i, S, mi => if chkP bs caps S mi x ≠ 0 then (S, (i : Int), chkP bs caps S mi x) else runE bs caps l (i + 1) (stepF S x i) x.minute
def sailP (bs : List Bil) (hs : List Hld) (l : List Ev) : Stt × Int × Int :=
  if chkM bs hs ≠ 0 then (default, 0, 2) else if 100 < l.length then (default, 0, 5) else if (l.any fun x => !okEv x) = true then (default, 0, 2) else runE bs (hs.map Hld.cap) l 0 (emptyS bs.length hs.length) 0
theorem chkM_ok {bs : List Bil} {hs : List Hld} (h : ¬ chkM bs hs ≠ 0) : (∀ b ∈ bs, okBil b = true) ∧ (∀ q ∈ hs, okHld q = true) ∧ bs.length ≤ 30 ∧ hs.length ≤ 20 := by
  unfold chkM at h
  by_cases q : (bs.any fun b => !okBil b) = true ∨ (hs.any fun h => !okHld h) = true ∨ 30 < bs.length ∨ 20 < hs.length
  · rw [if_pos q] at h; exact absurd (by decide) h
  · refine ⟨fun b hb => ?_, fun b hb => ?_, by omega, by omega⟩
    · cases hq : okBil b with
      | true => rfl
      | false => exact absurd (.inl (List.any_eq_true.2 ⟨b, hb, by simp [hq]⟩)) q
    · cases hq : okHld b with
      | true => rfl
      | false => exact absurd (.inr (.inl (List.any_eq_true.2 ⟨b, hb, by simp [hq]⟩))) q
theorem chkM_two {bs : List Bil} {hs : List Hld} : chkM bs hs = 0 ∨ chkM bs hs = 2 := by unfold chkM; split <;> simp
theorem nth_rep {α : Type} [Inhabited α] {n i : Nat} {a : α} (h : i < n) : nth (List.replicate n a) i = a := by rw [nth_eq (by simpa using h)]; simp
theorem emptyS_ok {bs : List Bil} {hs : List Hld} (h : ¬ chkM bs hs ≠ 0) : StOk bs (hs.map Hld.cap) 0 (emptyS bs.length hs.length) := by
  obtain ⟨h1, h2, h3, h4⟩ := chkM_ok h
  refine ⟨by simp [emptyS], by rw [List.length_map]; exact h4, by simp [emptyS], h3, by simp [emptyS], h1, fun i hi => ?_, fun l hl => ?_, by simp [emptyS], (fun l hl => by cases hl), fun i hi => ?_⟩
  · rw [List.length_map] at hi
    have := h2 _ (nth_mem hi)
    simp only [okHld, decide_eq_true_eq] at this
    rw [nth_map Hld.cap hi]
    show _ ∧ sumT (nth (List.replicate hs.length []) i) ≤ _
    rw [nth_rep hi]
    exact ⟨this.2, by simp only [sumT]; omega⟩
  · have := List.eq_of_mem_replicate hl
    subst this; exact fun x hx => by cases hx
  · have hi2 : i < bs.length := by simpa [emptyS] using hi
    show 0 ≤ nth (List.replicate bs.length 0) i ∧ _ ≤ _
    rw [nth_rep hi2]
    have := h1 _ (nth_mem hi2)
    simp only [okBil, decide_eq_true_eq] at this
    exact ⟨Int.le_refl _, by show nth (List.replicate bs.length 0) i ≤ _; rw [nth_rep hi2]; omega⟩
/-- What sail returns. -/
def SailPost (bs : List Bil) (hs : List Hld) (l : List Ev) (bb B : Nat) (v : Value) (w' : World) : Prop :=
  (∃ at_ e : Int, v = .tuple #[.pointer none, .int .i64 at_, .int .i64 e] ∧ e ≠ 0 ∧ (sailP bs hs l).2 = (at_, e)) ∨
  (∃ pv V, v = .tuple #[.pointer (some ⟨pv, 0, none⟩), .int .i64 0, .int .i64 0] ∧ sailP bs hs l = (V.st, 0, 0) ∧ Voy B pv w' V ∧ VOk l.length V ∧ V.bs = bs ∧ V.hl.map HG.cap = hs.map Hld.cap ∧ l.length ≤ 100 ∧ V.bb = bb)
theorem own43 : Own Try.prog 43 := ⟨Try.f43, Try.func43, by kernel_rfl, by kernel_rfl⟩

theorem Fin.ok {V V' : VG} {x : Ev} {n : Nat} (h : Fin V V' x n) (hvo : VOk n V) (hx : okEv x = true) (hc : EvOk V.bs (V.hl.map HG.cap) V.st V.mi x) : VOk (n + 1) V' := by
  obtain ⟨h1, h2, h3, h4, _⟩ := h
  refine ⟨by rw [h3, h4, h1]; exact hvo.ok.step hx hc, ?_⟩
  rw [h2]; exact (okEv_rng hx).1

set_option maxHeartbeats 4000000 in
theorem sail_c (bs : List Bil) (ab : Option Addr) (bb ob cb : Nat) (hs : List Hld) (ah : Option Addr) (bh oh ch : Nat) (us : List Ev) (ae : Option Addr) (be oe ce : Nat) (w0 : World) (hbs : Sl encBil 3 w0 ab bb ob bs) (hhs : Sl encHld 2 w0 ah bh oh hs) (hbl : bs.length ≤ 1000000) (hhl : hs.length ≤ 1000000) (hu : Sl encEv 8 w0 ae be oe us) (hul : us.length ≤ 1000000) (hpos : 0 < w0.heap.size) :
    CallsV Try.prog 43 [.agg #[.slice ab bs.length cb, .slice ah hs.length ch], .slice ae us.length ce] w0 (fun v w' => SailPost bs hs us bb w0.heap.size v w' ∧ Ext w0 w') := by
 refine f_enter (N := 71) Try.func43 rfl rfl rfl (c_seq fun K1 hK1 => (c_region (t_box (cs := [.slice ab bs.length cb, .slice ah hs.length ch]) rfl rfl rfl rfl (fun bk2 w3 ebk2 sbk2 B4 u5 => ?_))))
 have zu5 := u5.size
 have E6 := (Upd.refl (fun _ => False) w0).nx u5
 refine t_assign rfl rfl rfl (t_assign rfl rfl rfl (t_assign rfl rfl rfl (t_nil' (hK1 _ _ (c_seq fun K7 hK7 => (c_block (c_seq fun K8 hK8 => (c_region (t_loadN (vs := [.slice ab bs.length cb, .slice ah hs.length ch]) Try.isAgg25 Try.sizeOf25 rfl rfl rfl (B4.at.sub 0 2) rfl (t_call own14 rfl rfl rfl rfl (Check_c bs ab bb ob cb hs ah bh oh ch _ (hbs.keep E6 (fun _ h => h)) (hhs.keep E6 (fun _ h => h)) hbl hhl) (fun v9 w10 r12 => ?_)))))))))))
 obtain ⟨rfl, u11⟩ := r12
 have zu11 := u11.size
 have E13 := E6.nx u11
 refine t_cmp rfl rfl rfl rfl rfl (t_assign rfl rfl rfl (t_nil' (hK8 _ _ (c_condp rfl (fun g12 => ?_) (fun g12 => ?_)))))
 ·
  refine c_seq fun K14 hK14 => (c_region (t_assign rfl rfl rfl (t_assign rfl rfl rfl (t_assign rfl rfl rfl (t_nil' (hK14 _ _ (c_ret (f_ret3 (v1 := .pointer none) (v2 := .int .i64 0) (v3 := .int .i64 2) Try.results43 rfl rfl rfl ?_))))))))
  exact ⟨.inl ⟨_, _, rfl, by decide, by unfold sailP; rw [if_pos g12]⟩, E13⟩
 obtain ⟨hcb, hch, hbn, hhn⟩ := chkM_ok g12
 refine c_seq fun K15 hK15 => (c_region (t_move rfl rfl rfl (t_len Try.underlying26 rfl rfl rfl rfl (t_cmp rfl rfl rfl rfl rfl (t_assign rfl rfl rfl (t_nil' (hK15 _ _ (c_condp rfl (fun g16 => ?_) (fun g16 => ?_)))))))))
 ·
  refine c_seq fun K16 hK16 => (c_region (t_assign rfl rfl rfl (t_assign rfl rfl rfl (t_assign rfl rfl rfl (t_nil' (hK16 _ _ (c_ret (f_ret3 (v1 := .pointer none) (v2 := .int .i64 0) (v3 := .int .i64 5) Try.results43 rfl rfl rfl ?_))))))))
  exact ⟨.inl ⟨_, _, rfl, by decide, by unfold sailP; rw [if_neg g12, if_pos (by omega)]⟩, E13⟩
 refine c_seq fun K17 hK17 => (c_region (t_move rfl rfl rfl (t_call own70 rfl rfl rfl rfl (containsE_c encEv (fun _ => rfl) (fun x => !okEv x) 71 [] us ae be oe ce _ own71 (fun x _ w _ => badEv_c x w) (hu.keep E13 (fun _ h => h)) hul) (fun v18 w19 r21 => ?_))))
 obtain ⟨rfl, u20⟩ := r21
 have zu20 := u20.size
 have E22 := E13.nx u20
 refine t_assign rfl rfl rfl (t_nil' (hK17 _ _ (c_cond rfl (fun g20 => ?_) (fun g20 => ?_))))
 ·
  refine c_seq fun K23 hK23 => (c_region (t_assign rfl rfl rfl (t_assign rfl rfl rfl (t_assign rfl rfl rfl (t_nil' (hK23 _ _ (c_ret (f_ret3 (v1 := .pointer none) (v2 := .int .i64 0) (v3 := .int .i64 2) Try.results43 rfl rfl rfl ?_))))))))
  exact ⟨.inl ⟨_, _, rfl, by decide, by unfold sailP; rw [if_neg g12, if_neg (by omega), if_pos g20]⟩, E22⟩
 refine c_skip (hK7 _ _ (c_seq fun K24 hK24 => ?_))
 have B25 := ((B4.kx u11).kx u20)
 refine c_drawnS follows 9 6 [some (23, some (.agg #[.slice ab bs.length cb, .slice ah hs.length ch])), some (24, some (.pointer (some ⟨bk2, 0, none⟩))), some (25, some (.slice ab bs.length cb)), some (26, some (.int .i64 (bs.length : Int))), some (27, none), some (28, none)] [[],[],[1],[2],[3,3],[],[0,4,5],[6],[7,0,1,2,3,4,5,6,7]] (fun D ρ w => Upd (fun _ => False) w19 w ∧ (D 4 = true → ∃ lb, ρ 4 = .slice (some ⟨lb, 0, none⟩) bs.length bs.length ∧ (Blk w lb 3 ((List.replicate bs.length (0 : Int)).map (Value.int .i64)) ∧ w19.heap.size ≤ lb)) ∧ (D 5 = true → ∃ rM, ρ 5 = .map (some rM) ∧ (SetB [] w rM ∧ w19.heap.size ≤ rM))) rfl rfl rfl rfl (by kernel_rfl) (by kernel_rfl) (by kernel_rfl) ⟨(Upd.drew _).to, (fun h => by cases h), (fun h => by cases h)⟩ ⟨?_, ?_, ?_, ?_, ?_, ?_, trivial⟩ ?_
 · exact fun D ρ w26 hcD hnD hdD hW => ⟨_, kf_fr [2], fun Lr => t_loadN (vs := [.slice ab bs.length cb, .slice ah hs.length ch]) Try.isAgg25 Try.sizeOf25 rfl rfl rfl ((B25.kx hW.1).at.sub 0 2) rfl (dz rfl hW)⟩
 · exact pzf Try.underlying25 rfl Try.sizeOf22 (0) rfl rfl rfl rfl rfl fun _ _ _ h => h
 · exact fun D ρ w32 hcD hnD hdD hW => ⟨_, kf_fr [24], fun Lr => t_load Try.isAgg22 rfl rfl rfl ((B25.kx hW.1).get rfl) (dz rfl hW)⟩
 · exact fun D ρ w38 hcD hnD hdD hW => ⟨_, kf_fr [25], fun Lr => t_len Try.underlying22 rfl rfl rfl rfl (dz rfl hW)⟩
 ·
  intro D ρ w43 hcD hnD hdD hW
  obtain ⟨u44, F45, F46⟩ := hW
  have zu44 := u44.size
  refine ⟨_, kf_fr [26], fun Lr => ?_⟩
  refine t_makeI (n := bs.length) Try.underlying45 (by kernel_rfl) rfl rfl rfl rfl rfl (by omega) (fun lb w48 elb slb B50 u49 => ?_)
  have zu49 := u49.size
  exact dzn rfl ⟨(u44.next u49 (fun _ _ h => h.elim)), (fun _ => ⟨lb, rfl, ⟨B50, by omega⟩⟩), (fun h => by obtain ⟨rM, e, hB⟩ := F46 h; exact ⟨rM, e, ⟨(hB.1.keep u49 (fun h => h)), hB.2⟩⟩)⟩
 ·
  intro D ρ w52 hcD hnD hdD hW
  obtain ⟨u53, F54, F55⟩ := hW
  have zu53 := u53.size
  refine ⟨[], trivial, fun Lr => ?_⟩
  refine t_makemap rfl rfl (fun rM w57 erM srM M59 u58 => ?_)
  have zu58 := u58.size
  exact dzn rfl ⟨(u53.next u58 (fun _ _ h => h.elim)), (fun h => by obtain ⟨lb, e, hB⟩ := F54 h; exact ⟨lb, e, ⟨(hB.1.keep u58 (fun h => h)), hB.2⟩⟩), (fun _ => ⟨rM, rfl, ⟨SetB.ofMemo M59, by omega⟩⟩)⟩
 intro ρ w61 hW
 obtain ⟨u62, F63, F64⟩ := hW
 have zu62 := u62.size
 obtain ⟨lb, e66, H67⟩ := F63 rfl
 obtain ⟨rM, e68, H69⟩ := F64 rfl
 refine t_weak [(1, .slice ae us.length ce), (2, .pointer (some ⟨bk2, 0, none⟩)), (23, .agg #[.slice ab bs.length cb, .slice ah hs.length ch]), (27, .slice (some ⟨lb, 0, none⟩) bs.length bs.length), (28, .map (some rM))] ⟨rfl, rfl, rfl, (look_nd (j := 4) rfl rfl rfl e66), (look_nd (j := 5) rfl rfl rfl e68), trivial⟩ (t_build (ps := [(0, .agg #[.slice ab bs.length cb, .slice ah hs.length ch]), (2, .slice (some ⟨lb, 0, none⟩) bs.length bs.length), (3, .map (some rM))]) (v := .agg #[.slice ab bs.length cb, .slice ah hs.length ch, .slice none 0 0, .slice (some ⟨lb, 0, none⟩) bs.length bs.length, .map (some rM), .slice none 0 0, .int .i64 0]) rfl rfl ⟨rfl, rfl⟩ (fun w => by kernel_rfl) (t_box (cs := [.slice ab bs.length cb, .slice ah hs.length ch, .slice none 0 0, .slice (some ⟨lb, 0, none⟩) bs.length bs.length, .map (some rM), .slice none 0 0, .int .i64 0]) rfl rfl rfl rfl (fun bk70 w71 ebk70 sbk70 B72 u73 => ?_)))
 have zu73 := u73.size
 have E74 := (E22.nx u62).nx u73
 refine t_assign rfl rfl rfl (t_nil' (hK24 _ _ (c_seq fun K75 hK75 => (c_seq fun K76 hK76 => (c_region (t_field Try.underlying25 rfl Try.sizeOf23 (1) rfl rfl rfl rfl ?_))))))
 have B77 := ((B25.kx u62).kx u73)
 refine t_load Try.isAgg23 rfl rfl rfl (B77.get rfl) (t_len Try.underlying23 rfl rfl rfl rfl (t_move rfl rfl rfl (t_nil' (hK76 _ _ (c_block ?_)))))
 have B78 := (H67.1.kx u73)
 have D79 := (H69.1.keep u73 (fun h => h))
 have hlb9 := H67.2
 have hrM9 := H69.2
 have hbg9 : w0.heap.size ≤ bk70 := by omega
 have h0w : 0 < w0.heap.size := hpos
 have hvI : Voy w0.heap.size bk70 w71 (mkV bs ab bb ob cb hs ah ch lb rM [] none 0 0) := ⟨hbg9, by show Blk _ _ _ [_, _, _, .slice (some ⟨lb, 0, none⟩) (List.replicate bs.length (0 : Int)).length (List.replicate bs.length (0 : Int)).length, _, _, _]; rw [List.length_replicate]; exact B72, (hbs.keep E74 (fun _ h => h)), hbs.lt, Acc.nil _ _ _ _ _ h0w (by omega), (fun h hh => by cases hh), (fun i j _ hj => by cases hj), (fun i j _ hj => by cases hj), B78, by show w0.heap.size ≤ lb; omega, D79, by show w0.heap.size ≤ rM; omega, Acc.nil _ _ _ _ _ h0w (by omega), (fun x hx => by cases hx), fun x hx => by cases hx⟩
 refine c_loop (γ := Nat × Option Addr × Nat × Nat × List HG) (fun gg => [(1, .slice ae us.length ce), (4, .pointer (some ⟨bk70, 0, none⟩)), (32, .slice ah hs.length ch), (33, .int .i64 (hs.length : Int)), (34, .int .i64 (gg.1 : Int))]) (fun gg w => Upd (fun i => i = bk70) w71 w ∧ Blk w bk70 118 [.slice ab bs.length cb, .slice ah hs.length ch, .slice gg.2.1 gg.2.2.2.2.length gg.2.2.2.1, .slice (some ⟨lb, 0, none⟩) bs.length bs.length, .map (some rM), .slice none 0 0, .int .i64 0] ∧ (gg.1 ≤ hs.length) ∧ (Voy w0.heap.size bk70 w (mkV bs ab bb ob cb hs ah ch lb rM gg.2.2.2.2 gg.2.1 gg.2.2.1 gg.2.2.2.1)) ∧ (gg.2.2.2.2.length = gg.1) ∧ (gg.2.2.2.2.map HG.cap = (hs.take gg.1).map Hld.cap) ∧ (gg.2.2.2.2.map (fun h => h.xs.map HLay.v) = List.replicate gg.1 []) ∧ (gg.2.2.2.2.map HG.sealed = List.replicate gg.1 false) ∧ (gg.2.2.1 = 0 ∨ w71.heap.size ≤ gg.2.2.1)) (fun gg => hs.length - gg.1) (0, none, 0, 0, []) ⟨rfl, rfl, rfl, rfl, rfl, trivial⟩ ⟨Upd.refl _ _, B72, (Nat.zero_le _), hvI, rfl, rfl, rfl, rfl, (.inl rfl)⟩ ?_
 intro gg w81 hW K80 hK80
 obtain ⟨k, ao2, g2, c2, hl2⟩ := gg
 change WC _ _ _ _ _ _ [(1, .slice ae us.length ce), (4, .pointer (some ⟨bk70, 0, none⟩)), (32, .slice ah hs.length ch), (33, .int .i64 (hs.length : Int)), (34, .int .i64 (k : Int))] _
 change Upd (fun i => i = bk70) w71 w81 ∧ Blk w81 bk70 118 [.slice ab bs.length cb, .slice ah hs.length ch, .slice ao2 hl2.length c2, .slice (some ⟨lb, 0, none⟩) bs.length bs.length, .map (some rM), .slice none 0 0, .int .i64 0] ∧ (k ≤ hs.length) ∧ (Voy w0.heap.size bk70 w81 (mkV bs ab bb ob cb hs ah ch lb rM hl2 ao2 g2 c2)) ∧ (hl2.length = k) ∧ (hl2.map HG.cap = (hs.take k).map Hld.cap) ∧ (hl2.map (fun h => h.xs.map HLay.v) = List.replicate k []) ∧ (hl2.map HG.sealed = List.replicate k false) ∧ (g2 = 0 ∨ w71.heap.size ≤ g2) at hW
 obtain ⟨u82, I83, I84, I85, I86, I87, I88, I89, I90⟩ := hW
 have zu82 := u82.size
 have E91 := E74.next u82 (fun i hi h => by omega)
 have hk := I84; clear I84
 have hv2 := I85; clear I85
 have hhl := I86; clear I86
 have hcap := I87; clear I87
 have hxs := I88; clear I88
 have hsd := I89; clear I89
 have hg2 := I90; clear I90
 have hpa2 : Acc encPt 1 119 w0.heap.size w81 ao2 g2 c2 hl2 := hv2.pacc
 have lt_g2 := hpa2.lt
 have hpv9 := hv2.blk.lt
 have hnpg : w0.heap.size ≤ g2 → g2 ≠ bk70 := fun h => hpa2.neB hv2.blk (by decide) h
 refine c_seq fun K92 hK92 => (c_region (t_cmp rfl rfl rfl rfl rfl (t_nil' (hK92 _ _ (c_seq fun K93 hK93 => (c_condp rfl (fun g35 => ?_) (fun g35 => ?_)))))))
 ·
  refine c_skip (hK93 _ _ (c_seq fun K94 hK94 => (c_block (c_seq fun K95 hK95 => (c_region ?_)))))
  have i96 : k < hs.length := (by omega)
  refine t_index (j := k) Try.underlying23 Try.sizeOf90 rfl rfl rfl rfl ((hhs.keep E91 (fun _ h => h)).addr (by omega)) rfl i96 (t_loadN (vs := [.int .i64 ((nth hs k).hull), .int .i64 ((nth hs k).cap)]) Try.isAgg90 Try.sizeOf90 rfl rfl rfl (((hhs.keep E91 (fun _ h => h)).at_ k (by omega)).sub 0 2) rfl (t_alloc (cs := [.int .i64 0, .int .i64 0]) Try.zeroValue90 rfl rfl rfl (fun bk97 w98 ebk97 sbk97 B99 u100 => ?_)))
  have zu100 := u100.size
  refine t_st (vs := [.int .i64 ((nth hs k).hull), .int .i64 ((nth hs k).cap)]) Try.sizeOf90 rfl rfl rfl B99 rfl rfl rfl rfl (fun w102 sw102 B104 u103 => ?_)
  have zu103 := u103.size
  have B104 : Blk w102 bk97 90 [.int .i64 ((nth hs k).hull), .int .i64 ((nth hs k).cap)] := B104
  refine t_nil' (hK95 _ _ ?_)
  have B106 := ((I83.kx u100).keep u103 (by omega))
  have D112 := ((hpa2.keep u100 (fun _ h => h)).keep u103 (fun hb => show ¬ (g2 = bk97) by first | omega | assumption))
  refine c_drawn follows 13 [some (38, some (.pointer (some ⟨bk70, 0, none⟩))), some (39, some (.pointer (some ⟨bk70, 0, none⟩))), some (40, some (.pointer (some ⟨bk70, 0, none⟩))), some (41, some (.pointer (some ⟨bk70, 2, none⟩))), some (42, some (.slice ao2 hl2.length c2)), some (43, some (.agg #[.int .i64 ((nth hs k).hull), .int .i64 ((nth hs k).cap)])), some (44, some (.agg #[.int .i64 ((nth hs k).hull), .int .i64 ((nth hs k).cap), .slice none 0 0, .bool false])), some (45, none), some (46, none), some (47, none), some (48, some (.pointer (some ⟨bk70, 0, none⟩))), some (49, some (.pointer (some ⟨bk70, 2, none⟩))), none] [[],[],[1],[2],[3],[],[5],[6],[7],[4,8],[0,0,1,2,3,4,5,6,7,8,9],[10,0,1,2,3,4,5,6,7,8,9],[11,9,9,0,1,2,3,4,5,6,7,8,9]] (fun D ρ w => Upd (fun i => i = bk70 ∨ (i = g2 ∧ w0.heap.size ≤ i)) w102 w ∧ (D 9 = false → Acc encPt 1 119 w0.heap.size w ao2 g2 c2 hl2) ∧ (D 9 = false → Blk w bk70 118 [.slice ab bs.length cb, .slice ah hs.length ch, .slice ao2 hl2.length c2, .slice (some ⟨lb, 0, none⟩) bs.length bs.length, .map (some rM), .slice none 0 0, .int .i64 0]) ∧ (D 7 = true → ∃ pB, ρ 7 = .pointer (some ⟨pB, 0, none⟩) ∧ (D 8 = false → (Blk w pB 122 [.int .i64 ((nth hs k).hull), .int .i64 ((nth hs k).cap), .slice none 0 0, .bool false] ∧ w102.heap.size ≤ pB))) ∧ (D 8 = true → ∃ pB bk107, ρ 8 = .slice (some ⟨bk107, 0, none⟩) 1 1 ∧ w102.heap.size ≤ bk107 ∧ Blk w bk107 119 [.pointer (some ⟨pB, 0, none⟩)] ∧ (Blk w pB 122 [.int .i64 ((nth hs k).hull), .int .i64 ((nth hs k).cap), .slice none 0 0, .bool false] ∧ w102.heap.size ≤ pB)) ∧ (D 9 = true → ∃ pB ao114 gb115 cp116, ρ 9 = .slice ao114 (((hl2 ++ [(⟨pB, (nth hs k).hull, (nth hs k).cap, none, 0, 0, [], false⟩ : HG)])).length) cp116 ∧ Acc encPt 1 119 w0.heap.size w ao114 gb115 cp116 (hl2 ++ [(⟨pB, (nth hs k).hull, (nth hs k).cap, none, 0, 0, [], false⟩ : HG)]) ∧ (gb115 = g2 ∨ w102.heap.size ≤ gb115) ∧ (Blk w pB 122 [.int .i64 ((nth hs k).hull), .int .i64 ((nth hs k).cap), .slice none 0 0, .bool false] ∧ w102.heap.size ≤ pB) ∧ Blk w bk70 118 [.slice ab bs.length cb, .slice ah hs.length ch, (bif D 12 then .slice ao114 (((hl2 ++ [(⟨pB, (nth hs k).hull, (nth hs k).cap, none, 0, 0, [], false⟩ : HG)])).length) cp116 else .slice ao2 hl2.length c2), .slice (some ⟨lb, 0, none⟩) bs.length bs.length, .map (some rM), .slice none 0 0, .int .i64 0])) rfl rfl rfl (by kernel_rfl) (by kernel_rfl) ⟨(Upd.drew _).to, (fun _ => D112.keep (Upd.drew _) (fun _ h => h)), (fun _ => B106.keep (Upd.drew _) (fun h => h)), (fun h => by cases h), (fun h => by cases h), (fun h => by cases h)⟩ ⟨?_, ?_, ?_, ?_, ?_, ?_, ?_, ?_, ?_, ?_, ?_, ?_, ?_, trivial⟩ ?_
  · exact pz rfl rfl rfl rfl fun _ _ _ h => h
  · exact pz rfl rfl rfl rfl fun _ _ _ h => h
  · exact pz rfl rfl rfl rfl fun _ _ _ h => h
  · exact pzf Try.underlying118 rfl Try.sizeOf114 (2) rfl rfl rfl rfl rfl fun _ _ _ h => h
  · exact fun D ρ w121 hcD hnD hdD hW => ⟨_, kf_fr [41], fun Lr => t_load Try.isAgg114 rfl rfl rfl ((hW.2.2.1 (hcD.late 9 hnD rfl)).get rfl) (dz rfl hW)⟩
  · exact fun D ρ w130 hcD hnD hdD hW => ⟨_, kf_fr [8], fun Lr => t_loadN (vs := [.int .i64 ((nth hs k).hull), .int .i64 ((nth hs k).cap)]) Try.isAgg90 Try.sizeOf90 rfl rfl rfl ((B104.keep hW.1 (by omega)).at.sub 0 2) rfl (dz rfl hW)⟩
  · exact fun D ρ w _ _ _ hW => ⟨[(43, .agg #[.int .i64 ((nth hs k).hull), .int .i64 ((nth hs k).cap)])], ⟨fi 5 rfl rfl rfl, trivial⟩, fun Lr => t_build (ps := [(0, .agg #[.int .i64 ((nth hs k).hull), .int .i64 ((nth hs k).cap)])]) (v := .agg #[.int .i64 ((nth hs k).hull), .int .i64 ((nth hs k).cap), .slice none 0 0, .bool false]) rfl rfl ⟨rfl, rfl⟩ (fun w => by kernel_rfl) (dz rfl hW)⟩
  ·
   intro D ρ w140 hcD hnD hdD hW
   obtain ⟨u141, C142, T143, F144, F145, F146⟩ := hW
   have zu141 := u141.size
   refine ⟨_, kf_fr [44], fun Lr => ?_⟩
   refine t_box (cs := [.int .i64 ((nth hs k).hull), .int .i64 ((nth hs k).cap), .slice none 0 0, .bool false]) rfl rfl rfl rfl (fun pB w149 epB spB B151 u150 => ?_)
   have zu150 := u150.size
   exact dzn rfl ⟨(u141.next u150 (fun _ _ h => h.elim)), (fun h => ((C142 h).keep u150 (fun _ h => h))), (fun h => ((T143 h).keep u150 (fun h => h))), (fun _ => ⟨pB, rfl, fun _ => ⟨B151, by omega⟩⟩), (fun h => absurd ((hcD.late 8 hnD rfl).symm.trans h) (by decide)), (fun h => absurd ((hcD.late 9 (hcD.late 8 hnD rfl) rfl).symm.trans h) (by decide))⟩
  ·
   intro D ρ w153 hcD hnD hdD hW
   obtain ⟨u154, C155, T156, F157, F158, F159⟩ := hW
   have zu154 := u154.size
   obtain ⟨pB, e162, H163⟩ := F157 (hdD 7 rfl)
   have H164 := H163 hnD
   refine ⟨[(45, .pointer (some ⟨pB, 0, none⟩))], ⟨fi 7 rfl rfl e162.symm, trivial⟩, fun Lr => ?_⟩
   refine t_bslice (ps := [(0, .pointer (some ⟨pB, 0, none⟩))]) (cs := [.pointer (some ⟨pB, 0, none⟩)]) (e := 119) rfl rfl ⟨rfl, rfl⟩ (fun w => by kernel_rfl) (fun bk165 w166 ebk165 sbk165 B167 u168 => ?_)
   have zu168 := u168.size
   exact dzn rfl ⟨(u154.next u168 (fun _ _ h => h.elim)), (fun h => ((C155 h).keep u168 (fun _ h => h))), (fun h => ((T156 h).keep u168 (fun h => h))), (fun h => by obtain ⟨pB, e, _⟩ := F157 h; exact ⟨pB, e, fun h => by cases h⟩), (fun _ => ⟨pB, bk165, rfl, (by omega), (by show Blk w166 bk165 119 [.pointer (some ⟨pB, 0, none⟩)]; exact B167), ⟨(H164.1.keep u168 (fun h => h)), H164.2⟩⟩), (fun h => absurd ((hcD.late 9 hnD rfl).symm.trans h) (by decide))⟩
  ·
   intro D ρ w170 hcD hnD hdD hW
   obtain ⟨u171, C172, T173, F174, F175, F176⟩ := hW
   have zu171 := u171.size
   have B178 := T173 hnD
   have C179 := C172 hnD
   obtain ⟨pB, bk107, e180, gebk107, B181, fcB181_7⟩ := F175 (hdD 8 rfl)
   refine ⟨[(42, .slice ao2 hl2.length c2), (46, .slice (some ⟨bk107, 0, none⟩) 1 1)], ⟨fi 4 rfl rfl rfl, fi 8 rfl rfl e180.symm, trivial⟩, fun Lr => ?_⟩
   refine t_append (z := .pointer none) (bytes := 8) (k := 1) (base := w0.heap.size) (⟨pB, (nth hs k).hull, (nth hs k).cap, none, 0, 0, [], false⟩ : HG) Try.underlying114 (by kernel_rfl) rfl (by decide) (fun _ => rfl) (by intro x; simp [encPt, Value.oneCell']) rfl rfl rfl rfl C179 B181 (by omega) (by omega) (by decide) (fun ao182 gb183 cp184 w185 A186 u187 gegb183 lngb183 => ?_)
   have zu187 := u187.size
   have lt_gb183 := A186.lt
   have d12 := (hcD.late 12 hnD rfl)
   have B189 := (B178.keep u187 (by omega))
   exact dzn rfl ⟨(u171.next u187 (fun i hi h => by omega)), (fun h => by cases h), (fun h => by cases h), (fun h => by obtain ⟨pB, e, _⟩ := F174 h; exact ⟨pB, e, fun h2 => absurd ((hdD 8 rfl).symm.trans h2) (by decide)⟩), (fun h => by obtain ⟨pB, b, e, hge, hB, hF7⟩ := F175 h; exact ⟨pB, b, e, hge, (hB.keep u187 (show ¬ ((b = g2 ∧ w0.heap.size ≤ b)) by first | omega | assumption)), ⟨(hF7.1.keep u187 (by have hgg := hF7.2; show ¬ ((pB = g2 ∧ w0.heap.size ≤ pB)); omega)), hF7.2⟩⟩), (fun _ => ⟨pB, ao182, gb183, cp184, rfl, A186, (by omega), ⟨(fcB181_7.1.keep u187 (by have hgg := fcB181_7.2; show ¬ ((pB = g2 ∧ w0.heap.size ≤ pB)); omega)), fcB181_7.2⟩, (by show Blk w185 bk70 118 [.slice ab bs.length cb, .slice ah hs.length ch, (bif D 12 then .slice ao182 (((hl2 ++ [(⟨pB, (nth hs k).hull, (nth hs k).cap, none, 0, 0, [], false⟩ : HG)])).length) cp184 else .slice ao2 hl2.length c2), .slice (some ⟨lb, 0, none⟩) bs.length bs.length, .map (some rM), .slice none 0 0, .int .i64 0]; simp only [d12, cond_false]; exact B189)⟩)⟩
  · exact pz rfl rfl rfl rfl fun _ _ _ h => h
  · exact pzf Try.underlying118 rfl Try.sizeOf114 (2) rfl rfl rfl rfl rfl fun _ _ _ h => h
  ·
   intro D ρ w190 hcD hnD hdD hW
   obtain ⟨u191, C192, T193, F194, F195, F196⟩ := hW
   have zu191 := u191.size
   obtain ⟨pB, ao114, gb115, cp116, e198, A199, h200, fcA199_7, B202⟩ := F196 (hdD 9 rfl)
   simp only [hnD, cond_false] at B202
   refine ⟨[(47, .slice ao114 (((hl2 ++ [(⟨pB, (nth hs k).hull, (nth hs k).cap, none, 0, 0, [], false⟩ : HG)])).length) cp116), (49, .pointer (some ⟨bk70, 2, none⟩))], ⟨fi 9 rfl rfl e198.symm, fi 11 rfl rfl rfl, trivial⟩, fun Lr => ?_⟩
   refine t_st (vs := [.slice ao114 (((hl2 ++ [(⟨pB, (nth hs k).hull, (nth hs k).cap, none, 0, 0, [], false⟩ : HG)])).length) cp116]) Try.sizeOf114 rfl rfl rfl B202 rfl rfl rfl rfl (fun w203 sw203 B205 u204 => ?_)
   have zu204 := u204.size
   have B205 : Blk w203 bk70 118 [.slice ab bs.length cb, .slice ah hs.length ch, .slice ao114 (((hl2 ++ [(⟨pB, (nth hs k).hull, (nth hs k).cap, none, 0, 0, [], false⟩ : HG)])).length) cp116, .slice (some ⟨lb, 0, none⟩) bs.length bs.length, .map (some rM), .slice none 0 0, .int .i64 0] := B205
   exact dz0 rfl ⟨(u191.next u204 (fun i hi h => by omega)), (fun h => absurd ((hdD 9 rfl).symm.trans h) (by decide)), (fun h => absurd ((hdD 9 rfl).symm.trans h) (by decide)), (fun h => by obtain ⟨pB, e, _⟩ := F194 h; exact ⟨pB, e, fun h2 => absurd ((hdD 8 rfl).symm.trans h2) (by decide)⟩), (fun h => by obtain ⟨pB, b, e, hge, hB, hF7⟩ := F195 h; exact ⟨pB, b, e, hge, (hB.keep u204 (show ¬ (b = bk70) by first | omega | assumption)), ⟨(hF7.1.keep u204 (by have hgg := hF7.2; show ¬ (pB = bk70); omega)), hF7.2⟩⟩), (fun _ => ⟨pB, ao114, gb115, cp116, e198, (A199.keep u204 (fun _ => show ¬ (gb115 = bk70) by first | omega | assumption)), h200, ⟨(fcA199_7.1.keep u204 (by have hgg := fcA199_7.2; show ¬ (pB = bk70); omega)), fcA199_7.2⟩, B205⟩)⟩
  intro ρ w207 hW
  obtain ⟨u208, C209, T210, F211, F212, F213⟩ := hW
  have zu208 := u208.size
  clear C209
  obtain ⟨pB, ao114, gb115, cp116, e217, A218, gegb115, fcA218_7, bkgb115⟩ := F213 rfl
  have bkgb115 : Blk w207 bk70 118 [.slice ab bs.length cb, .slice ah hs.length ch, .slice ao114 (((hl2 ++ [(⟨pB, (nth hs k).hull, (nth hs k).cap, none, 0, 0, [], false⟩ : HG)])).length) cp116, .slice (some ⟨lb, 0, none⟩) bs.length bs.length, .map (some rM), .slice none 0 0, .int .i64 0] := bkgb115
  have lt_gb115 := A218.lt
  refine QK.weak [(1, .slice ae us.length ce), (4, .pointer (some ⟨bk70, 0, none⟩)), (32, .slice ah hs.length ch), (33, .int .i64 (hs.length : Int)), (34, .int .i64 (k : Int))] ⟨rfl, rfl, rfl, rfl, rfl, trivial⟩ (hK94 _ _ (c_region (t_ari rfl rfl rfl rfl rfl (by omega) (t_move rfl rfl rfl (t_nil' ?_)))))
  exact hK80 (k + 1, ao114, gb115, cp116, (hl2 ++ [(⟨pB, (nth hs k).hull, (nth hs k).cap, none, 0, 0, [], false⟩ : HG)])) _ _ (by show hs.length - (k + 1) < hs.length - k; omega) ⟨rfl, rfl, rfl, rfl, rfl, trivial⟩ ⟨(((u82.next u100 (fun _ _ h => h.elim)).next u103 (fun i hi h => by omega)).next u208 (fun i hi h => by omega)), bkgb115, (by omega), (hv2.addHold rfl (q := (⟨pB, (nth hs k).hull, (nth hs k).cap, none, 0, 0, [], false⟩ : HG)) ⟨rfl, rfl, rfl, rfl⟩ h0w ((((Upd.refl (fun i => i = bk70 ∨ (i = g2 ∧ w0.heap.size ≤ i)) w81).next u100 (fun _ _ h => h.elim)).next u103 (fun i hi h => by omega)).next u208 (fun i hi h => by omega)) (by simp only [VG.cells, mkV, List.length_replicate]; exact bkgb115) (by exact A218) (by exact fcA218_7.1) (by have hgg := fcA218_7.2; show w81.heap.size ≤ pB; omega) (by omega)), (by rw [List.length_append, hhl]; rfl), (by rw [List.map_append, hcap, take_nth (by omega), List.map_append]; rfl), (by rw [List.map_append, hxs, List.replicate_succ']; rfl), (by rw [List.map_append, hsd, List.replicate_succ']; rfl), (by show gb115 = 0 ∨ w71.heap.size ≤ gb115; omega)⟩
 refine c_exit (hK75 _ _ (c_seq fun K219 hK219 => (c_seq fun K220 hK220 => (c_region (t_move rfl rfl rfl (t_len Try.underlying26 rfl rfl rfl rfl (t_move rfl rfl rfl (t_nil' (hK220 _ _ (c_block ?_))))))))))
 have hvE := hv2.ext (Upd.refl (fun _ => False) w81)
 have hk2 : k = hs.length := by omega
 have hst0 : (mkV bs ab bb ob cb hs ah ch lb rM hl2 ao2 g2 c2).st = emptyS bs.length hs.length := by unfold VG.st emptyS; rw [← hk2]; simp only [mkV, hxs, hsd]; rfl
 have hcp0 : hl2.map HG.cap = hs.map Hld.cap := by rw [hcap, hk2, List.take_length]
 have hvo0 : VOk 0 (mkV bs ab bb ob cb hs ah ch lb rM hl2 ao2 g2 c2) := ⟨by rw [hst0]; show StOk bs (hl2.map HG.cap) 0 _; rw [hcp0]; exact emptyS_ok g12, (show (0 : Int) ≤ 0 ∧ (0 : Int) ≤ 1000000 from by decide)⟩
 refine c_loop (γ := Nat × VG) (fun gg => [(4, .pointer (some ⟨bk70, 0, none⟩)), (51, .slice ae us.length ce), (52, .int .i64 (us.length : Int)), (53, .int .i64 (gg.1 : Int))]) (fun gg w => Upd (fun i => w0.heap.size ≤ i) w81 w ∧ (gg.1 ≤ us.length) ∧ (Voy w0.heap.size bk70 w gg.2) ∧ (VOk gg.1 gg.2) ∧ (runE bs (hs.map Hld.cap) us 0 (emptyS bs.length hs.length) 0 = runE bs (hs.map Hld.cap) (us.drop gg.1) gg.1 gg.2.st gg.2.mi) ∧ (gg.2.bs = bs) ∧ (gg.2.hl.map HG.cap = hs.map Hld.cap) ∧ (gg.2.bb = bb)) (fun gg => us.length - gg.1) (0, mkV bs ab bb ob cb hs ah ch lb rM hl2 ao2 g2 c2) ⟨rfl, rfl, rfl, rfl, trivial⟩ ⟨Upd.refl _ _, (Nat.zero_le _), hvE, hvo0, (by rw [hst0]; rfl), rfl, hcp0, rfl⟩ ?_
 intro gg w222 hW K221 hK221
 obtain ⟨kk, V4⟩ := gg
 change WC _ _ _ _ _ _ [(4, .pointer (some ⟨bk70, 0, none⟩)), (51, .slice ae us.length ce), (52, .int .i64 (us.length : Int)), (53, .int .i64 (kk : Int))] _
 change Upd (fun i => w0.heap.size ≤ i) w81 w222 ∧ (kk ≤ us.length) ∧ (Voy w0.heap.size bk70 w222 V4) ∧ (VOk kk V4) ∧ (runE bs (hs.map Hld.cap) us 0 (emptyS bs.length hs.length) 0 = runE bs (hs.map Hld.cap) (us.drop kk) kk V4.st V4.mi) ∧ (V4.bs = bs) ∧ (V4.hl.map HG.cap = hs.map Hld.cap) ∧ (V4.bb = bb) at hW
 obtain ⟨u223, I224, I225, I226, I227, I228, I229, I230⟩ := hW
 have zu223 := u223.size
 have E231 := E91.next u223 (fun i hi (h : w0.heap.size ≤ i) => show False by first | omega | assumption)
 have hkk := I224; clear I224
 have hv4 := I225; clear I225
 have hvo4 := I226; clear I226
 have hrun := I227; clear I227
 have hbs4 := I228; clear I228
 have hcp4 := I229; clear I229
 have hbb4 := I230; clear I230
 have hpv14 := hv4.blk.lt
 refine c_seq fun K232 hK232 => (c_region (t_cmp rfl rfl rfl rfl rfl (t_nil' (hK232 _ _ (c_seq fun K233 hK233 => (c_condp rfl (fun g54 => ?_) (fun g54 => ?_)))))))
 ·
  refine c_skip (hK233 _ _ (c_seq fun K234 hK234 => (c_block (c_seq fun K235 hK235 => (c_region (t_move rfl rfl rfl ?_))))))
  have i236 : kk < us.length := (by omega)
  refine t_index (j := kk) Try.underlying26 Try.sizeOf41 rfl rfl rfl rfl ((hu.keep E231 (fun _ h => h)).addr (by omega)) rfl i236 (t_loadN (vs := [.int .i64 ((nth us kk).kind), .int .i64 ((nth us kk).minute), .int .i64 ((nth us kk).bill), .int .i64 ((nth us kk).frm), .int .i64 ((nth us kk).to), .int .i64 ((nth us kk).tons), .int .i64 ((nth us kk).port), .int .i64 ((nth us kk).sn)]) Try.isAgg41 Try.sizeOf41 rfl rfl rfl (((hu.keep E231 (fun _ h => h)).at_ kk (by omega)).sub 0 8) rfl (t_alloc (cs := [.int .i64 0, .int .i64 0, .int .i64 0, .int .i64 0, .int .i64 0, .int .i64 0, .int .i64 0, .int .i64 0]) Try.zeroValue41 rfl rfl rfl (fun bk237 w238 ebk237 sbk237 B239 u240 => ?_)))
  have zu240 := u240.size
  refine t_assign rfl rfl rfl (t_st (vs := [.int .i64 ((nth us kk).kind), .int .i64 ((nth us kk).minute), .int .i64 ((nth us kk).bill), .int .i64 ((nth us kk).frm), .int .i64 ((nth us kk).to), .int .i64 ((nth us kk).tons), .int .i64 ((nth us kk).port), .int .i64 ((nth us kk).sn)]) Try.sizeOf41 rfl rfl rfl B239 rfl rfl rfl rfl (fun w242 sw242 B244 u243 => ?_))
  have zu243 := u243.size
  have B244 : Blk w242 bk237 41 [.int .i64 ((nth us kk).kind), .int .i64 ((nth us kk).minute), .int .i64 ((nth us kk).bill), .int .i64 ((nth us kk).frm), .int .i64 ((nth us kk).to), .int .i64 ((nth us kk).tons), .int .i64 ((nth us kk).port), .int .i64 ((nth us kk).sn)] := B244
  refine t_nil' (hK235 _ _ (c_seq fun K246 hK246 => (c_seq fun K247 hK247 => (c_region (t_move rfl rfl rfl (t_loadN (vs := [.int .i64 ((nth us kk).kind), .int .i64 ((nth us kk).minute), .int .i64 ((nth us kk).bill), .int .i64 ((nth us kk).frm), .int .i64 ((nth us kk).to), .int .i64 ((nth us kk).tons), .int .i64 ((nth us kk).port), .int .i64 ((nth us kk).sn)]) Try.isAgg41 Try.sizeOf41 rfl rfl rfl (B244.at.sub 0 8) rfl ?_))))))
  have hxv : okEv (nth us kk) = true := by have := List.any_eq_false.1 g20 _ (nth_mem (xs := us) (i := kk) (by omega)); simpa using this
  have hvc := hv4.ext (((Upd.refl (fun _ => False) w222).next u240 (fun _ _ h => h.elim)).next u243 (fun i hi h => by omega))
  refine t_call own73 rfl rfl rfl rfl (check_c w0.heap.size bk70 kk V4 (nth us kk) _ hvc hvo4 hxv) (fun v248 w249 r251 => ?_)
  obtain ⟨rfl, u250⟩ := r251
  have zu250 := u250.size
  refine t_assign rfl rfl rfl (t_nil' (hK247 _ _ (c_seq fun K253 hK253 => (c_region (t_move rfl rfl rfl (t_cmp rfl rfl rfl rfl rfl (t_nil' (hK253 _ _ (c_condp rfl (fun g62 => ?_) (fun g62 => ?_))))))))))
  ·
   refine c_seq fun K254 hK254 => (c_region (t_move rfl rfl rfl (t_move rfl rfl rfl (t_assign rfl rfl rfl (t_assign rfl rfl rfl (t_assign rfl rfl rfl (t_nil' (hK254 _ _ (c_ret (f_ret3 (v1 := .pointer none) (v2 := .int .i64 (kk : Int)) (v3 := .int .i64 (chkV V4 (nth us kk))) Try.results43 rfl rfl rfl ?_))))))))))
   exact ⟨.inl ⟨_, _, rfl, g62, by unfold sailP; rw [if_neg g12, if_neg (by omega), if_neg (by rw [g20]; decide), hrun, drop_nth (show kk < us.length by omega), runE, if_pos (by rw [← hbs4, ← hcp4, ← chkV_eq hxv]; exact g62)]; rw [chkV_eq hxv, hbs4, hcp4]⟩, (((E231.nx u240).next u243 (fun i hi h => by omega)).nx u250)⟩
  refine c_skip (hK246 _ _ (c_region (t_move rfl rfl rfl (t_move rfl rfl rfl ?_))))
  have B255 := (B244.kx u250)
  refine t_loadN (vs := [.int .i64 ((nth us kk).kind), .int .i64 ((nth us kk).minute), .int .i64 ((nth us kk).bill), .int .i64 ((nth us kk).frm), .int .i64 ((nth us kk).to), .int .i64 ((nth us kk).tons), .int .i64 ((nth us kk).port), .int .i64 ((nth us kk).sn)]) Try.isAgg41 Try.sizeOf41 rfl rfl rfl (B255.at.sub 0 8) rfl ?_
  have hevo : EvOk V4.bs (V4.hl.map HG.cap) V4.st V4.mi (nth us kk) := EvOk.of hxv (by rw [← chkV_eq hxv]; exact Decidable.not_not.1 g62)
  have hck : chkP bs (hs.map Hld.cap) V4.st V4.mi (nth us kk) = chkV V4 (nth us kk) := by rw [chkV_eq hxv, hbs4, hcp4]
  have hvd := hvc.ext ((Upd.refl (fun _ => False) w242).next u250 (fun _ _ h => h.elim))
  refine t_call own74 rfl rfl rfl rfl (do_c w0.heap.size bk70 kk V4 (nth us kk) _ hvd hvo4 hxv hevo (by omega)) (fun v256 w257 r259 => ?_)
  obtain ⟨⟨VD, hvD, hFin⟩, u258⟩ := r259
  have zu258 := u258.size
  refine t_nil' (hK234 _ _ (c_region (t_ari rfl rfl rfl rfl rfl (by omega) (t_move rfl rfl rfl (t_nil' ?_)))))
  exact hK221 (kk + 1, VD) _ _ (by show us.length - (kk + 1) < us.length - kk; omega) ⟨rfl, rfl, rfl, rfl, trivial⟩ ⟨((((u223.next u240 (fun _ _ h => h.elim)).next u243 (fun i hi (h : i = bk237) => show w0.heap.size ≤ i by first | omega | assumption)).next u250 (fun _ _ h => h.elim)).next u258 (fun i hi (h : w0.heap.size ≤ i) => show w0.heap.size ≤ i by first | omega | assumption)), (by omega), hvD, (hFin.ok hvo4 hxv hevo), (by rw [hrun, drop_nth (show kk < us.length by omega), runE, if_neg (by rw [hck]; exact g62), hFin.1, hFin.2.1]), (hFin.2.2.1.trans hbs4), (hFin.2.2.2.1.trans hcp4), (hFin.2.2.2.2.trans hbb4)⟩
 have hkk2 : kk = us.length := by omega
 refine c_exit (hK219 _ _ (c_seq fun K261 hK261 => (c_region (t_move rfl rfl rfl (t_assign rfl rfl rfl (t_assign rfl rfl rfl (t_assign rfl rfl rfl (t_nil' (hK261 _ _ (c_ret (f_ret3 (v1 := .pointer (some ⟨bk70, 0, none⟩)) (v2 := .int .i64 0) (v3 := .int .i64 0) Try.results43 rfl rfl rfl ?_)))))))))))
 exact ⟨.inr ⟨_, V4, rfl, by unfold sailP; rw [if_neg g12, if_neg (by omega), if_neg (by rw [g20]; decide), hrun, List.drop_eq_nil_of_le (by omega)]; rfl, hv4.ext (Upd.refl (fun _ => False) w222), by rw [← hkk2]; exact hvo4, hbs4, hcp4, by omega, hbb4⟩, E231⟩

end Go.Proofs.Ytblkphbblkncdaa
