/-
  happened. Conditions: none.
-/
import Derived.Test.YtblkphbblkncdaaD1
namespace Go.Proofs.Ytblkphbblkncdaa
open Go Go.RowKit

def sAt (bs : List Bil) (hs : List Hld) (us : List Ev) : Int := (sailP bs hs us).2.1
def sEr (bs : List Bil) (hs : List Hld) (us : List Ev) : Int := (sailP bs hs us).2.2
/-- The minute of the last event. -/
def lastM (mi : Int) : List Ev → Int
  | [] => mi
  | x :: l => lastM x.minute l
theorem lastM_snoc {x : Ev} : ∀ {l : List Ev} {mi : Int}, lastM mi (l ++ [x]) = x.minute
  | [], _ => rfl
  | y :: l, _ => lastM_snoc (l := l)
theorem runE_snoc {bs : List Bil} {caps : List Int} {x : Ev} : ∀ {l : List Ev} {i : Nat} {S : Stt} {mi : Int}, (runE bs caps l i S mi).2.2 = 0 → runE bs caps (l ++ [x]) i S mi = runE bs caps [x] (i + l.length) (runE bs caps l i S mi).1 (lastM mi l)
  | [], i, S, mi, _ => rfl
  | y :: l, i, S, mi, h => by
    have e : ∀ l', runE bs caps (y :: l') i S mi = if chkP bs caps S mi y ≠ 0 then (S, (i : Int), chkP bs caps S mi y) else runE bs caps l' (i + 1) (stepF S y i) y.minute := fun _ => rfl
    rw [e] at h
    rw [List.cons_append, e, e]
    by_cases hc : chkP bs caps S mi y ≠ 0
    · rw [if_pos hc] at h; exact absurd h hc
    · rw [if_neg hc] at h
      rw [if_neg hc, if_neg hc, runE_snoc h]
      show runE bs caps [x] (i + 1 + l.length) _ _ = runE bs caps [x] (i + (l.length + 1)) _ _
      rw [show i + 1 + l.length = i + (l.length + 1) by omega]; rfl
theorem runE_at {bs : List Bil} {caps : List Int} : ∀ {l : List Ev} {i : Nat} {S : Stt} {mi : Int}, (runE bs caps l i S mi).2.2 = 0 → (runE bs caps l i S mi).2.1 = 0
  | [], i, S, mi, _ => rfl
  | y :: l, i, S, mi, h => by
    unfold runE at h ⊢
    by_cases hc : chkP bs caps S mi y ≠ 0
    · rw [if_pos hc] at h; exact absurd h hc
    · rw [if_neg hc] at h ⊢; exact runE_at h
theorem runE_ok {bs : List Bil} {caps : List Int} : ∀ {l : List Ev} {i : Nat} {S : Stt} {mi : Int}, StOk bs caps i S → (∀ x ∈ l, okEv x = true) → (runE bs caps l i S mi).2.2 = 0 → StOk bs caps (i + l.length) (runE bs caps l i S mi).1
  | [], i, S, mi, h, _, _ => h
  | y :: l, i, S, mi, h, ho, h0 => by
    unfold runE at h0 ⊢
    by_cases hc : chkP bs caps S mi y ≠ 0
    · rw [if_pos hc] at h0; exact absurd h0 hc
    · rw [if_neg hc] at h0 ⊢
      have h1 := h.step (ho y (by simp)) (EvOk.of (ho y (by simp)) (Decidable.not_not.1 hc))
      have h2 := runE_ok h1 (fun x hx => ho x (List.mem_cons_of_mem _ hx)) h0
      rwa [show i + 1 + l.length = i + (l.length + 1) by omega] at h2
theorem sail_eq {bs : List Bil} {hs : List Hld} {l : List Ev} (hm : chkM bs hs = 0) (hl : l.length ≤ 100) (ho : ∀ x ∈ l, okEv x = true) : sailP bs hs l = runE bs (hs.map Hld.cap) l 0 (emptyS bs.length hs.length) 0 := by
  unfold sailP
  rw [if_neg (by rw [hm]; decide), if_neg (by omega), if_neg]
  intro h
  obtain ⟨x, hx, h⟩ := List.any_eq_true.1 h
  rw [ho x hx] at h; cases h
theorem sail_inv {bs : List Bil} {hs : List Hld} {l : List Ev} (h : sEr bs hs l = 0) : chkM bs hs = 0 ∧ l.length ≤ 100 ∧ (∀ x ∈ l, okEv x = true) := by
  unfold sEr sailP at h
  by_cases q1 : chkM bs hs ≠ 0
  · rw [if_pos q1] at h; cases h
  rw [if_neg q1] at h
  by_cases q2 : 100 < l.length
  · rw [if_pos q2] at h; cases h
  rw [if_neg q2] at h
  by_cases q3 : (l.any fun x => !okEv x) = true
  · rw [if_pos q3] at h; cases h
  refine ⟨Decidable.not_not.1 q1, by omega, fun x hx => ?_⟩
  cases hq : okEv x with
  | true => rfl
  | false => exact absurd (List.any_eq_true.2 ⟨x, hx, by simp [hq]⟩) q3
/-- The state after events that can happen. -/
def sSt (bs : List Bil) (hs : List Hld) (us : List Ev) : Stt := (sailP bs hs us).1
theorem sail_ok {bs : List Bil} {hs : List Hld} {l : List Ev} (h : sEr bs hs l = 0) : StOk bs (hs.map Hld.cap) l.length (sSt bs hs l) := by
  obtain ⟨h1, h2, h3⟩ := sail_inv h
  unfold sEr at h
  unfold sSt
  rw [sail_eq h1 h2 h3] at h ⊢
  have := runE_ok (emptyS_ok (by rw [h1]; decide)) h3 h
  rwa [Nat.zero_add] at this
theorem sail_snoc {bs : List Bil} {hs : List Hld} {l : List Ev} {x : Ev} (h : sEr bs hs l = 0) (hl : l.length < 100) (hx : okEv x = true) : sailP bs hs (l ++ [x]) = if chkP bs (hs.map Hld.cap) (sSt bs hs l) (lastM 0 l) x ≠ 0 then (sSt bs hs l, (l.length : Int), chkP bs (hs.map Hld.cap) (sSt bs hs l) (lastM 0 l) x) else (stepF (sSt bs hs l) x (l.length : Int), 0, 0) := by
  obtain ⟨h1, h2, h3⟩ := sail_inv h
  have e := sail_eq h1 h2 h3
  unfold sEr at h
  unfold sSt
  rw [e] at h ⊢
  rw [sail_eq h1 (by rw [List.length_append, List.length_singleton]; omega) (fun y hy => by
    rcases List.mem_append.1 hy with hy | hy
    · exact h3 y hy
    · have : y = x := by simpa using hy
      subst this; exact hx), runE_snoc h, Nat.zero_add]
  rfl
theorem snoc_at {bs : List Bil} {hs : List Hld} {l : List Ev} {x : Ev} (h : sEr bs hs l = 0) (hl : l.length < 100) (hx : okEv x = true) (hn : ¬ sEr bs hs (l ++ [x]) = 0) : sAt bs hs (l ++ [x]) = (l.length : Int) := by
  unfold sEr at hn
  unfold sAt
  rw [sail_snoc h hl hx] at hn ⊢
  by_cases hc : chkP bs (hs.map Hld.cap) (sSt bs hs l) (lastM 0 l) x ≠ 0
  · rw [if_pos hc]
  · rw [if_neg hc] at hn; exact absurd rfl hn
theorem evOf_ok {x : X5} {i : Int} (hx : okX5 x) (h0 : 0 ≤ i) (h1 : i ≤ 1000000) : okEv (evOf x i) = true := by
  unfold okX5 at hx
  unfold evOf
  split
  · simp only [okEv, okEv0, okTons, okPort, Bool.and_eq_true, Bool.or_eq_true, decide_eq_true_eq, and_true]
    refine ⟨by omega, .inl (.inl (.inl (.inl ?_)))⟩
    omega
  split
  · simp only [okEv, okEv0, okTons, okPort, Bool.and_eq_true, Bool.or_eq_true, decide_eq_true_eq, and_true]
    refine ⟨by omega, .inl (.inl (.inl (.inr ?_)))⟩
    omega
  split
  · simp only [okEv, okEv0, okTons, okPort, Bool.and_eq_true, Bool.or_eq_true, decide_eq_true_eq, and_true]
    refine ⟨by omega, .inl (.inl (.inr ?_))⟩
    omega
  split
  · simp only [okEv, okEv0, okTons, okPort, Bool.and_eq_true, Bool.or_eq_true, decide_eq_true_eq, and_true]
    refine ⟨by omega, .inl (.inr ?_)⟩
    omega
  · simp only [okEv, okEv0, okTons, okPort, Bool.and_eq_true, Bool.or_eq_true, decide_eq_true_eq, and_true]
    refine ⟨by omega, .inr ?_⟩
    omega
/-- Those of the first k events that can happen, one after another. -/
def hap (xs : List X5) : Nat → List Ev
  | 0 => []
  | k + 1 => if sEr fourB fourH (hap xs k ++ [evOf (nth xs k) k]) = 0 then hap xs k ++ [evOf (nth xs k) k] else hap xs k
theorem hap_yes {xs : List X5} {k : Nat} {out : List Ev} (h : out = hap xs k) (hs : sEr fourB fourH (out ++ [evOf (nth xs k) k]) = 0) : out ++ [evOf (nth xs k) k] = hap xs (k + 1) := by
  subst h; show _ = if _ then _ else _; rw [if_pos hs]
theorem hap_no {xs : List X5} {k : Nat} {out : List Ev} (h : out = hap xs k) (hs : ¬ sEr fourB fourH (out ++ [evOf (nth xs k) k]) = 0) : out = hap xs (k + 1) := by
  subst h; show _ = if _ then _ else _; rw [if_neg hs]
theorem hap_len {xs : List X5} : ∀ {k : Nat}, (hap xs k).length ≤ k
  | 0 => Nat.le_refl _
  | k + 1 => by
    have := hap_len (xs := xs) (k := k)
    unfold hap
    split
    · rw [List.length_append, List.length_singleton]; omega
    · omega
theorem hap_ok {xs : List X5} : ∀ {k : Nat}, sEr fourB fourH (hap xs k) = 0
  | 0 => (by decide : sEr fourB fourH [] = 0)
  | k + 1 => by
    unfold hap
    split
    · assumption
    · exact hap_ok
theorem hap_min {xs : List X5} : ∀ {k : Nat}, lastM 0 (hap xs k) ≤ k
  | 0 => Int.le_refl _
  | k + 1 => by
    have := hap_min (xs := xs) (k := k)
    unfold hap
    split
    · rw [lastM_snoc]
      unfold evOf
      repeat (split; · show (k : Int) ≤ _; omega)
      show (k : Int) ≤ _; omega
    · omega
/-- What happened of some small numbers. -/
def done (xs : List X5) : List Ev := hap xs (min xs.length 30)
theorem done_len {xs : List X5} : (done xs).length ≤ 30 := Nat.le_trans hap_len (Nat.min_le_right _ _)
theorem done_ok {xs : List X5} : sEr fourB fourH (done xs) = 0 := hap_ok
theorem done_min {xs : List X5} : lastM 0 (done xs) ≤ 30 := Int.le_trans hap_min (by have := Nat.min_le_right xs.length 30; omega)
theorem ReplayU_c (bs : List Bil) (ab : Option Addr) (bb ob cb : Nat) (hs : List Hld) (ah : Option Addr) (bh oh ch : Nat) (us : List Ev) (ae : Option Addr) (be oe ce : Nat) (w0 : World) (hbs : Sl encBil 3 w0 ab bb ob bs) (hhs : Sl encHld 2 w0 ah bh oh hs) (hbl : bs.length ≤ 1000000) (hhl : hs.length ≤ 1000000) (hu : Sl encEv 8 w0 ae be oe us) (hul : us.length ≤ 1000000) (hpos : 0 < w0.heap.size) : CallsV Try.prog 15 [.agg #[.slice ab bs.length cb, .slice ah hs.length ch], .slice ae us.length ce] w0 (fun v w' => (∃ ao g cp rows, v = .tuple #[.slice ao (List.length rows) cp, .int .i64 (sAt bs hs us), .int .i64 (sEr bs hs us)] ∧ Sl encRowL 1 w' ao g 0 rows ∧ (∀ r ∈ rows, LaysR w' r.ao r.g r.xs) ∧ (sEr bs hs us ≠ 0 → rows = []) ∧ (sEr bs hs us = 0 → sAt bs hs us = 0 ∧ rows.map rowV = (sailP bs hs us).1.hold) ∧ (∀ r ∈ rows, r.xs.length ≤ r.cp)) ∧ Ext w0 w') := by
  refine (Replay_c bs ab bb ob cb hs ah bh oh ch us ae be oe ce w0 hbs hhs hbl hhl hu hul hpos).mono ?_
  rintro v w' ⟨h, u⟩
  refine ⟨?_, u⟩
  unfold sAt sEr
  rcases h with ⟨a, e, rfl, he, h⟩ | ⟨ao, g, cp, rows, rfl, h, h1, h2, h3⟩
  · rw [h]
    exact ⟨none, 0, 0, [], rfl, Sl.nil _ _ _ _ _ _, (fun r hr => by cases hr), fun _ => rfl, fun h0 => absurd h0 he, (fun r hr => by cases hr)⟩
  · rw [h]
    exact ⟨ao, g, cp, rows, rfl, h1, h2, fun h0 => absurd rfl h0, fun _ => ⟨rfl, h3.1⟩, h3.2⟩
theorem LandedU_c (bs : List Bil) (ab : Option Addr) (bb ob cb : Nat) (hs : List Hld) (ah : Option Addr) (bh oh ch : Nat) (us : List Ev) (ae : Option Addr) (be oe ce : Nat) (ev : Int) (w0 : World) (hbs : Sl encBil 3 w0 ab bb ob bs) (hhs : Sl encHld 2 w0 ah bh oh hs) (hbl : bs.length ≤ 1000000) (hhl : hs.length ≤ 1000000) (hu : Sl encEv 8 w0 ae be oe us) (hul : us.length ≤ 1000000) (hpos : 0 < w0.heap.size) : CallsV Try.prog 16 [.agg #[.slice ab bs.length cb, .slice ah hs.length ch], .slice ae us.length ce, .int .i64 ev] w0 (fun v w' => (∃ ao g cp xs e, v = .tuple #[.slice ao (List.length xs) cp, .int .i64 (sAt bs hs us), .int .i64 e] ∧ LaysR w' ao g xs ∧ (sEr bs hs us ≠ 0 → e = sEr bs hs us ∧ xs = []) ∧ (sEr bs hs us = 0 → (findL (sailP bs hs us).1.landed ev = none ∧ e = 7 ∧ xs = []) ∨ (findL (sailP bs hs us).1.landed ev = some (xs.map HLay.v) ∧ e = 0))) ∧ Ext w0 w') := by
  refine (Landed_c bs ab bb ob cb hs ah bh oh ch us ae be oe ce ev w0 hbs hhs hbl hhl hu hul hpos).mono ?_
  rintro v w' ⟨h, u⟩
  refine ⟨?_, u⟩
  unfold sAt sEr
  have hnil : ∀ g, LaysR w' none g [] := fun g => ⟨Sl.nil _ _ _ _ _ _, (fun x hx => by cases hx)⟩
  rcases h with ⟨a, e, rfl, he, h⟩ | ⟨h, h1, rfl⟩ | ⟨h, ao, g, cp, xs, rfl, h1, h2⟩
  · rw [h]
    exact ⟨none, 0, 0, [], e, rfl, hnil 0, fun _ => ⟨rfl, rfl⟩, fun h0 => absurd h0 he⟩
  · rw [h]
    exact ⟨none, 0, 0, [], 7, rfl, hnil 0, fun h0 => absurd rfl h0, fun _ => .inl ⟨h1, rfl, rfl⟩⟩
  · rw [h]
    exact ⟨ao, g, cp, xs, 0, rfl, h2, fun h0 => absurd rfl h0, fun _ => .inr ⟨h1, rfl⟩⟩
theorem own31 : Own Try.prog 31 := ⟨Try.f31, Try.func31, by kernel_rfl, by kernel_rfl⟩

theorem eventsA_c (us : List Ev) (ae : Option Addr) (be oe ce : Nat) (w0 : World) (hu : Sl encEv 8 w0 ae be oe us) (hul : us.length ≤ 1000000) :
    CallsV Try.prog 13 [.slice ae us.length ce] w0 (fun v w' => ∃ ao1 g1 c1 ba, v = .slice ao1 us.length c1 ∧ Acc encEv 8 41 ba w' ao1 g1 c1 us ∧ w0.heap.size ≤ ba ∧ ba ≤ w'.heap.size ∧ Ext w0 w') := by
 refine f_enter (N := 6) Try.func13 rfl rfl rfl (c_seq fun K1 hK1 => (c_region (t_assign rfl rfl rfl (t_nil' (hK1 _ _ (c_seq fun K2 hK2 => (c_region (t_bslice (ps := []) (cs := []) (e := 41) rfl rfl ⟨rfl, rfl⟩ (fun w => by kernel_rfl) (fun bk3 w4 ebk3 sbk3 B5 u6 => ?_)))))))))
 have zu6 := u6.size
 have E7 := (Upd.refl (fun _ => False) w0).nx u6
 refine t_move rfl rfl rfl (t_copyE (enc := encEv) (z := .agg #[.int .i64 0, .int .i64 0, .int .i64 0, .int .i64 0, .int .i64 0, .int .i64 0, .int .i64 0, .int .i64 0]) (bytes := 64) (k := 8) (ys := us) Try.underlying26 (by kernel_rfl) rfl (by decide) (fun _ => rfl) (by intro x; simp [encEv, Value.oneCell']) rfl rfl rfl rfl B5 (hu.keep E7 (fun _ h => h)) (by omega) (by decide) (fun ao1 g1 c1 w8 A10 u9 ge1 => ?_))
 have zu9 := u9.size
 refine t_assign rfl rfl rfl (t_nil' (hK2 _ _ (c_ret (f_ret1 (v := .slice ao1 us.length c1) Try.results13 rfl ?_))))
 have B12 := (B5.kx u9)
 exact ⟨ao1, g1, c1, bk3, rfl, A10, by omega, by have := (B12).lt; omega, (E7.nx u9)⟩

set_option maxHeartbeats 1000000 in
theorem happened_c (xs : List X5) (a0 : Option Addr) (b0 o0 c0 : Nat) (w0 : World) (hl : Sl encX5 5 w0 a0 b0 o0 xs) (hll : xs.length ≤ 9223372036854775807) (hxs : ∀ x ∈ xs, okX5 x) :
    CallsV Try.prog 31 [.slice a0 xs.length c0] w0 (fun v w' => ∃ ao g cp, v = .tuple #[.slice ao (done xs).length cp, .bool true] ∧ Sl encEv 8 w' ao g 0 (done xs) ∧ (done xs).length ≤ cp ∧ Ext w0 w') := by
 refine f_enter (N := 46) Try.func31 rfl rfl rfl (c_seq fun K1 hK1 => (c_region (t_assign rfl rfl rfl (t_assign rfl rfl rfl (t_nil' (hK1 _ _ (c_seq fun K2 hK2 => (c_region (t_bslice (ps := []) (cs := []) (e := 41) rfl rfl ⟨rfl, rfl⟩ (fun w => by kernel_rfl) (fun bk3 w4 ebk3 sbk3 B5 u6 => ?_))))))))))
 have zu6 := u6.size
 refine t_assign rfl rfl rfl (t_nil' (hK2 _ _ (c_seq fun K8 hK8 => (c_seq fun K9 hK9 => (c_region (t_assign rfl rfl rfl (t_nil' (hK9 _ _ (c_block (c_loop (γ := Nat × Option Addr × Nat × Nat × List Ev) (fun gg => [(0, .slice a0 xs.length c0), (4, .slice gg.2.1 gg.2.2.2.2.length gg.2.2.2.1), (5, .int .i64 (gg.1 : Int))]) (fun gg w => Upd (fun _ => False) w4 w ∧ (gg.1 ≤ xs.length) ∧ (gg.1 ≤ 30) ∧ (Sl encEv 8 w gg.2.1 gg.2.2.1 0 gg.2.2.2.2) ∧ (gg.2.2.2.2 = hap xs gg.1) ∧ (gg.2.2.2.2.length ≤ gg.2.2.2.1)) (fun gg => xs.length - gg.1) (0, some ⟨bk3, 0, none⟩, bk3, 0, []) ⟨rfl, rfl, rfl, trivial⟩ ⟨Upd.refl _ _, (Nat.zero_le _), (Nat.zero_le _), (Sl.nil _ _ _ _ _ _), rfl, (Nat.le_refl _)⟩ ?_))))))))))
 intro gg w11 hW K10 hK10
 obtain ⟨k, ao, go, co, out⟩ := gg
 change WC _ _ _ _ _ _ [(0, .slice a0 xs.length c0), (4, .slice ao out.length co), (5, .int .i64 (k : Int))] _
 change Upd (fun _ => False) w4 w11 ∧ (k ≤ xs.length) ∧ (k ≤ 30) ∧ (Sl encEv 8 w11 ao go 0 out) ∧ (out = hap xs k) ∧ (out.length ≤ co) at hW
 obtain ⟨u12, I13, I14, I15, I16, I17⟩ := hW
 have zu12 := u12.size
 have hk := I13; clear I13
 have hk30 := I14; clear I14
 have hso := I15; clear I15
 have hou := I16; clear I16
 have hoc := I17; clear I17
 have hol : out.length ≤ k := by rw [hou]; exact hap_len
 refine c_seq fun K19 hK19 => (c_cut (γ := Bool) (fun q => [(0, .slice a0 xs.length c0), (4, .slice ao out.length co), (5, .int .i64 (k : Int)), (18, .bool q)]) (fun q w => Upd (fun _ => False) w11 w ∧ (q = true ↔ (k < xs.length ∧ k < 30))) (fun K21 hK21 => ?_) ?_)
 ·
  refine c_region (t_move rfl rfl rfl (t_move rfl rfl rfl (t_len Try.underlying84 rfl rfl rfl rfl (t_cmp rfl rfl rfl rfl rfl (t_move rfl rfl rfl (t_splitp 15 rfl (fun g15 => ?_) (fun g15 => ?_)))))))
  ·
   refine t_move rfl rfl rfl (t_cmp rfl rfl rfl rfl rfl (t_pick_t rfl rfl rfl rfl (t_nil' ?_)))
   exact hK21 (decide ((k : Int) < 30)) _ _ ⟨rfl, rfl, rfl, rfl, trivial⟩ ⟨(Upd.refl _ _), (decide_eq_true_iff.trans ⟨fun h => ⟨by omega, by omega⟩, fun h => by omega⟩)⟩
  refine t_skip rfl rfl rfl (t_skip rfl rfl rfl (t_pick_f rfl rfl rfl rfl (t_nil' ?_)))
  exact hK21 false _ _ ⟨rfl, rfl, rfl, rfl, trivial⟩ ⟨(Upd.refl _ _), ⟨fun h => (by cases h), fun h => absurd h.1 (by omega)⟩⟩
 intro q w22 hW
 obtain ⟨u23, I24⟩ := hW
 have zu23 := u23.size
 have E25 := (((Upd.refl (fun _ => False) w0).nx u6).nx u12).nx u23
 have hq := I24; clear I24
 refine c_cond rfl (fun g18 => ?_) (fun g18 => ?_)
 ·
  have hq9 := hq.1 g18
  refine c_skip (hK19 _ _ (c_seq fun K26 hK26 => (c_block (c_seq fun K27 hK27 => (c_drawnM follows (fun _ => False) (.look 0 (.look 2 (.look 3 (.look 4 (.look 5 (.look 6 (.act 1 (.act 7 (.act 8 (.act 9 (.look 10 .done) .stop) .stop) .stop) .stop))))))) (by kernel_rfl) fun w28 u29 => ?_)))))
  have zu29 := u29.size
  have E30 := E25.nx u29
  refine y_move rfl rfl rfl (y_move rfl rfl rfl (y_move rfl rfl rfl ?_))
  have i31 : k < xs.length := (by omega)
  refine y_index (j := k) Try.underlying84 Try.sizeOf103 rfl rfl rfl rfl ((hl.keep E30 (fun _ h => h)).addr (by omega)) rfl i31 (y_loadN (vs := [.int .u8 ((nth xs k).a), .int .u8 ((nth xs k).b), .int .u8 ((nth xs k).c), .int .u8 ((nth xs k).d), .int .u8 ((nth xs k).e)]) Try.isAgg103 Try.sizeOf103 rfl rfl rfl (((hl.keep E30 (fun _ h => h)).at_ k (by omega)).sub 0 5) rfl (fun h => h) (y_move rfl rfl rfl (s_do ?_)))
  have D33 := ((hso.keep u23 (fun _ h => h)).keep u29 (fun _ h => h))
  refine t_call own13 rfl rfl rfl rfl (eventsA_c out ao go 0 co _ D33 (by first | omega | (simp only [List.length_append, List.length_singleton]; omega))) (fun v34 w35 r37 => ?_)
  obtain ⟨aoE32, gE32, cE32, baE32, rfl, hkE32, hbE32, hzE32, u36⟩ := r37
  have zu36 := u36.size
  have lt_gE32 := hkE32.lt
  refine s_next ((Upd.refl _ _).nx u36) (s_do (t_call own65 rfl rfl rfl rfl (event_c (nth xs k) (k : Int) _ (hxs _ (nth_mem (by omega)))) (fun v39 w40 r42 => ?_)))
  obtain ⟨rfl, u41⟩ := r42
  have zu41 := u41.size
  refine s_next ((Upd.refl _ _).nx u41) (s_do (t_bslice (ps := [(0, .agg #[.int .i64 ((evOf (nth xs k) (k : Int)).kind), .int .i64 ((evOf (nth xs k) (k : Int)).minute), .int .i64 ((evOf (nth xs k) (k : Int)).bill), .int .i64 ((evOf (nth xs k) (k : Int)).frm), .int .i64 ((evOf (nth xs k) (k : Int)).to), .int .i64 ((evOf (nth xs k) (k : Int)).tons), .int .i64 ((evOf (nth xs k) (k : Int)).port), .int .i64 ((evOf (nth xs k) (k : Int)).sn)])]) (cs := [.int .i64 ((evOf (nth xs k) (k : Int)).kind), .int .i64 ((evOf (nth xs k) (k : Int)).minute), .int .i64 ((evOf (nth xs k) (k : Int)).bill), .int .i64 ((evOf (nth xs k) (k : Int)).frm), .int .i64 ((evOf (nth xs k) (k : Int)).to), .int .i64 ((evOf (nth xs k) (k : Int)).tons), .int .i64 ((evOf (nth xs k) (k : Int)).port), .int .i64 ((evOf (nth xs k) (k : Int)).sn)]) (e := 41) rfl rfl ⟨rfl, rfl⟩ (fun w => by kernel_rfl) (fun bk44 w45 ebk44 sbk44 B46 u47 => ?_)))
  have zu47 := u47.size
  refine s_next ((Upd.refl _ _).nx u47) (s_do ?_)
  have D49 := ((hkE32.keep u41 (fun _ h => h)).keep u47 (fun _ h => h))
  refine t_append (z := .agg #[.int .i64 0, .int .i64 0, .int .i64 0, .int .i64 0, .int .i64 0, .int .i64 0, .int .i64 0, .int .i64 0]) (bytes := 64) (k := 8) (base := baE32) (evOf (nth xs k) (k : Int)) Try.underlying26 (by kernel_rfl) rfl (by decide) (fun _ => rfl) (by intro x; simp [encEv, Value.oneCell']) rfl rfl rfl rfl D49 B46 (by omega) (by omega) (by decide) (fun ao50 gb51 cp52 w53 A54 u55 gegb51 lngb51 => ?_)
  have zu55 := u55.size
  have lt_gb51 := A54.lt
  refine s_next ((Upd.refl _ _).next u55 (fun i hi (h : (i = gE32 ∧ baE32 ≤ i)) => show w28.heap.size ≤ i ∨ (False) by first | omega | exact .inr h)) (y_assign rfl rfl rfl (s_nil (hK27 _ _ (c_seq fun K57 hK57 => (c_region (t_call own32 rfl rfl rfl rfl (four_c _) (fun v60 w61 r63 => ?_)))))))
  obtain ⟨bfB58, bfH59, rfl, hkfB58, hkfH59, gbfB58, gbfH59, u62⟩ := r63
  have zu62 := u62.size
  have pfB58 := hkfB58.lt (by decide)
  refine t_move rfl rfl rfl ?_
  have D66 := (A54.keep u62 (fun _ h => h))
  refine t_call own15 rfl rfl rfl rfl (ReplayU_c fourB (some ⟨bfB58, 0, none⟩) bfB58 0 4 fourH (some ⟨bfH59, 0, none⟩) bfH59 0 4 (out ++ [(evOf (nth xs k) (k : Int))]) ao50 gb51 0 cp52 _ hkfB58 hkfH59 (by decide) (by decide) (D66.sl (fun _ => rfl)) (by first | omega | (simp only [List.length_append, List.length_singleton]; omega)) (by omega)) (fun v67 w68 r70 => ?_)
  obtain ⟨⟨aoR65, gR65, cR65, rowsR65, rfl, hroR65, hrlR65, h1R65, h2R65, h3R65⟩, u69⟩ := r70
  have zu69 := u69.size
  refine t_move rfl rfl rfl (t_extract rfl rfl rfl rfl (t_extract rfl rfl rfl rfl (t_extract rfl rfl rfl rfl (t_assign rfl rfl rfl (t_assign rfl rfl rfl (t_assign rfl rfl rfl (t_nil' (hK57 _ _ (c_seq fun K72 hK72 => (c_region (t_move rfl rfl rfl (t_cmp rfl rfl rfl rfl rfl (t_nil' (hK72 _ _ (c_condp rfl (fun g39 => ?_) (fun g39 => ?_))))))))))))))))
  ·
   refine c_region (t_move rfl rfl rfl (t_assign rfl rfl rfl (t_nil' (hK26 _ _ (c_region (t_move rfl rfl rfl (t_ari rfl rfl rfl rfl rfl (by omega) (t_assign rfl rfl rfl (t_nil' ?_)))))))))
   have D73 := (D66.keep u69 (fun _ h => h))
   exact hK10 (k + 1, ao50, gb51, cp52, (out ++ [(evOf (nth xs k) (k : Int))])) _ _ (by show xs.length - (k + 1) < xs.length - k; omega) ⟨rfl, rfl, rfl, trivial⟩ ⟨((((((((u12.next u23 (fun _ _ h => h.elim)).next u29 (fun _ _ h => h.elim)).next u36 (fun _ _ h => h.elim)).next u41 (fun _ _ h => h.elim)).next u47 (fun _ _ h => h.elim)).next u55 (fun i hi h => by omega)).next u62 (fun _ _ h => h.elim)).next u69 (fun _ _ h => h.elim)), (by omega), (by omega), (D73.sl (fun _ => rfl)), (hap_yes hou g39), (D73).cap_le⟩
  refine c_seq fun K74 hK74 => (c_region (t_move rfl rfl rfl (t_move rfl rfl rfl (t_len Try.underlying26 rfl rfl rfl rfl (t_cmp rfl rfl rfl rfl rfl (t_nil' (hK74 _ _ (c_condp rfl (fun g44 => ?_) (fun g44 => ?_)))))))))
  ·
   exact absurd (snoc_at (by rw [hou]; exact hap_ok) (by omega) (evOf_ok (hxs _ (nth_mem (by omega))) (by omega) (by omega)) g39) g44
  refine c_skip (hK26 _ _ (c_region (t_move rfl rfl rfl (t_ari rfl rfl rfl rfl rfl (by omega) (t_assign rfl rfl rfl (t_nil' ?_))))))
  have D75 := ((((((D33.keep u36 (fun _ h => h)).keep u41 (fun _ h => h)).keep u47 (fun _ h => h)).keep u55 (fun hp => by have h9 := hso.lt hp; show ¬ ((go = gE32 ∧ baE32 ≤ go)); omega)).keep u62 (fun _ h => h)).keep u69 (fun _ h => h))
  exact hK10 (k + 1, ao, go, co, out) _ _ (by show xs.length - (k + 1) < xs.length - k; omega) ⟨rfl, rfl, rfl, trivial⟩ ⟨((((((((u12.next u23 (fun _ _ h => h.elim)).next u29 (fun _ _ h => h.elim)).next u36 (fun _ _ h => h.elim)).next u41 (fun _ _ h => h.elim)).next u47 (fun _ _ h => h.elim)).next u55 (fun i hi h => by omega)).next u62 (fun _ _ h => h.elim)).next u69 (fun _ _ h => h.elim)), (by omega), (by omega), D75, (hap_no hou g39), hoc⟩
 have hq9 : k = min xs.length 30 := by
   have h9 : ¬ (k < xs.length ∧ k < 30) := fun h => by rw [hq.2 h] at g18; cases g18
   omega
 refine c_exit (hK8 _ _ (c_seq fun K76 hK76 => (c_region (t_move rfl rfl rfl (t_assign rfl rfl rfl (t_assign rfl rfl rfl (t_nil' (hK76 _ _ (c_ret (f_ret2 (v1 := .slice ao out.length co) (v2 := .bool true) Try.results31 rfl rfl ?_))))))))))
 have D77 := (hso.keep u23 (fun _ h => h))
 have hok9 : out = done xs := by rw [hou, hq9]; rfl
 exact ⟨ao, go, co, by rw [← hok9], by rw [← hok9]; exact D77, by rw [← hok9]; exact hoc, E25⟩

end Go.Proofs.Ytblkphbblkncdaa
