/-
  The reference's Of, In, Where, Control and Recall. Conditions: none.
-/
import Derived.Test.YtgkkgpenmppjcaaVB10
namespace Go.Proofs.Ytgkkgpenmppjcaa
open Go Go.RowKit

theorem fm_snoc {α : Type} (f : Nat → List α) (k : Nat) : (List.range (k + 1)).flatMap f = (List.range k).flatMap f ++ f k := by rw [List.range_succ, List.flatMap_append]; simp
theorem fm_congr {α β : Type} {f g : α → List β} : ∀ {l : List α}, (∀ x ∈ l, f x = g x) → l.flatMap f = l.flatMap g
  | [], _ => rfl
  | a :: l, h => by rw [List.flatMap_cons, List.flatMap_cons, h a (by simp), fm_congr (fun x hx => h x (List.mem_cons_of_mem _ hx))]
theorem one_pos {a b n : Int} (h : 0 < n) : one a b n = [⟨a, b, n⟩] := if_pos h
theorem one_neg {a b n : Int} (h : ¬ 0 < n) : one a b n = [] := if_neg h
def mkL (l : LG) : Lnd := ⟨l.ev, l.port, l.xs.map HLay.v⟩
/-- What the reference knows of what was landed. -/
theorem ld_few {bs : List Bil} {caps : List Int} {n : Nat} {R : RG} (h : StOk bs caps n R.st) (hn : n ≤ 100) : R.ld.length ≤ 100 ∧ ∀ q ∈ R.ld, (q.xs.length ≤ 1000000 ∧ ∀ x ∈ q.xs, 0 ≤ x.v.tons ∧ x.v.tons ≤ 1000000) ∧ (0 ≤ q.port ∧ q.port ≤ 99) ∧ ∀ b, 0 ≤ ofT (q.xs.map HLay.v) b ∧ ofT (q.xs.map HLay.v) b ≤ 1000000 := by
  have h0 := h.ldn
  rw [show R.st.landed.length = R.ld.length from List.length_map _] at h0
  refine ⟨by omega, fun q hq => ?_⟩
  have h1 := h.ldt (mkL q) (List.mem_map.2 ⟨q, hq, rfl⟩)
  have h3 := sumT_len (l := q.xs.map HLay.v) (fun y hy => (h1.1 y hy).1)
  rw [List.length_map] at h3
  have h4 : sumT (q.xs.map HLay.v) ≤ 1000000 := h1.2.1
  refine ⟨⟨by omega, fun x hx => by have := h1.1 x.v (List.mem_map.2 ⟨x, hx, rfl⟩); exact ⟨by have := this.1; omega, this.2.1⟩⟩, h1.2.2.2, fun b => ?_⟩
  have h5 := ofT_le (l := q.xs.map HLay.v) (b := b) (fun y hy => by have := (h1.1 y hy).1; omega)
  omega
theorem inL_rng {b : Int} {Q : Int → Bool} : ∀ {l : List LG}, (∀ q ∈ l, 0 ≤ ofT (q.xs.map HLay.v) b ∧ ofT (q.xs.map HLay.v) b ≤ 1000000) → 0 ≤ inL b Q l ∧ inL b Q l ≤ 1000000 * l.length
  | [], _ => by simp [inL]
  | a :: l, h => by
    have h1 := inL_rng (l := l) (Q := Q) (fun q hq => h q (List.mem_cons_of_mem _ hq))
    have h2 := h a (by simp)
    have e : (1000000 : Int) * ((a :: l).length : Int) = 1000000 * (l.length : Int) + 1000000 := by rw [List.length_cons]; omega
    rw [e, inL]
    split <;> omega
/-- Tons that were landed in ports below q, but for one. -/
def asS (b to : Int) (l : List LG) : Nat → Int
  | 0 => 0
  | q + 1 => asS b to l q + if ((q : Nat) : Int) ≠ to then inL b (fun p => decide (p = (q : Int))) l else 0
theorem asS_rng {b to : Int} {l : List LG} (h : ∀ q ∈ l, 0 ≤ ofT (q.xs.map HLay.v) b ∧ ofT (q.xs.map HLay.v) b ≤ 1000000) (hl : l.length ≤ 100) : ∀ q, 0 ≤ asS b to l q ∧ asS b to l q ≤ 100000000 * q
  | 0 => by simp [asS]
  | q + 1 => by
    have h1 := asS_rng (to := to) h hl q
    have h2 := inL_rng (b := b) (Q := fun p => decide (p = (q : Int))) h
    rw [asS]
    split <;> omega
theorem asS_nil (b to : Int) : ∀ q, asS b to [] q = 0
  | 0 => rfl
  | q + 1 => by rw [asS, asS_nil b to q]; split <;> rfl
theorem asS_cons (b to : Int) (x : LG) (l : List LG) (hx : 0 ≤ x.port) : ∀ q, asS b to (x :: l) q = (if x.port < (q : Int) ∧ x.port ≠ to then ofT (x.xs.map HLay.v) b else 0) + asS b to l q
  | 0 => by rw [if_neg (by omega)]; rfl
  | q + 1 => by
    rw [asS, asS_cons b to x l hx q, asS, inL]
    simp only [decide_eq_true_eq]
    repeat' split
    all_goals omega
theorem asS_all (b to : Int) : ∀ {l : List LG}, (∀ q ∈ l, 0 ≤ q.port ∧ q.port ≤ 99) → asS b to l 100 = inL b (fun p => !decide (p = to)) l
  | [], _ => asS_nil b to 100
  | x :: l, h => by
    have hx := h x (by simp)
    rw [asS_cons b to x l hx.1, asS_all b to (fun q hq => h q (List.mem_cons_of_mem _ hq)), inL]
    by_cases h1 : x.port = to
    · rw [if_neg (by omega), if_neg (by simp [h1])]
    · rw [if_pos (by constructor <;> first | exact h1 | (show x.port < ((100 : Nat) : Int); omega)), if_pos (by simp [h1])]
theorem rec_snocL {l : List LG} {k : Nat} {b : Int} (hk : k < l.length) : recF ((l.take (k + 1)).map mkL) b = recF ((l.take k).map mkL) b ++ if 0 < ofT ((nth l k).xs.map HLay.v) b then [(nth l k).ev] else [] := rec_snoc hk
theorem hold_at {R : RG} {i : Nat} (h : i < R.hl.length) : nth R.st.hold i = (nth R.hl i).xs.map HLay.v := nth_map (fun r : RowL => r.xs.map HLay.v) h
theorem sumH_at {R : RG} {b : Int} {k : Nat} (h : k < R.hl.length) : sumH b (R.st.hold.take (k + 1)) = sumH b (R.st.hold.take k) + ofT ((nth R.hl k).xs.map HLay.v) b := by
  rw [take_nth (show k < R.st.hold.length by rw [show R.st.hold.length = R.hl.length from List.length_map _]; exact h), sumH_snoc, hold_at h]
theorem whR {bs : List Bil} {R : RG} {b : Int} : one 0 0 ((nth bs b.toNat).tons - nth R.lo b.toNat) ++ ((List.range R.hl.length).flatMap fun (i : Nat) => one 1 (i : Int) (ofT ((nth R.hl i).xs.map HLay.v) b)) ++ ((List.range 100).flatMap fun (p : Nat) => one 2 (p : Int) (inL b (fun q => decide (q = (p : Int))) R.ld)) = whP bs R.st b := by
  unfold whP
  rw [show R.st.hold.length = R.hl.length from List.length_map _]
  congr 1
  · congr 1
    exact fm_congr (fun i hi => by rw [hold_at (List.mem_range.1 hi)])
  · exact fm_congr (fun p _ => by rw [inL_eq]; rfl)
theorem own58 : Own Try.prog 58 := ⟨Try.f58, Try.func58, by kernel_rfl, by kernel_rfl⟩
theorem own57 : Own Try.prog 57 := ⟨Try.f57, Try.func57, by kernel_rfl, by kernel_rfl⟩
theorem own25 : Own Try.prog 25 := ⟨Try.f25, Try.func25, by kernel_rfl, by kernel_rfl⟩
theorem own24 : Own Try.prog 24 := ⟨Try.f24, Try.func24, by kernel_rfl, by kernel_rfl⟩
theorem own27 : Own Try.prog 27 := ⟨Try.f27, Try.func27, by kernel_rfl, by kernel_rfl⟩

theorem rOf_c (xs : List HLay) (ao : Option Addr) (b o cap : Nat) (bi : Int) (w0 : World) (hs : Sl encHLay 3 w0 ao b o xs) (hl : xs.length ≤ 1000000) (ht : ∀ x ∈ xs, 0 ≤ x.v.tons ∧ x.v.tons ≤ 1000000) :
    CallsV Try.prog 58 [.slice ao xs.length cap, .int .i64 bi] w0 (fun v w' => v = .int .i64 (ofT (xs.map HLay.v) bi) ∧ Ext w0 w') := by
 refine f_enter (N := 28) Try.func58 rfl rfl rfl (c_seq fun K1 hK1 => (c_region (t_assign rfl rfl rfl (t_nil' (hK1 _ _ (c_seq fun K2 hK2 => (c_region (t_assign rfl rfl rfl (t_nil' (hK2 _ _ (c_seq fun K3 hK3 => (c_seq fun K4 hK4 => (c_region (t_assign rfl rfl rfl (t_nil' (hK4 _ _ (c_block (c_loop (γ := Nat) (fun k => [(0, .slice ao xs.length cap), (1, .int .i64 bi), (5, .int .i64 (ofT ((xs.take k).map HLay.v) bi)), (6, .int .i64 (k : Int))]) (fun k w => Upd (fun _ => False) w0 w ∧ (k ≤ xs.length) ∧ (0 ≤ ofT ((xs.take k).map HLay.v) bi ∧ ofT ((xs.take k).map HLay.v) bi ≤ 1000000 * k)) (fun k => xs.length - k) 0 ⟨rfl, rfl, rfl, rfl, trivial⟩ ⟨Upd.refl _ _, (Nat.zero_le _), (by simp [ofT, sumT])⟩ ?_))))))))))))))))))
 intro k w6 hW K5 hK5
 obtain ⟨u7, I8, I9⟩ := hW
 have zu7 := u7.size
 have E10 := (Upd.refl (fun _ => False) w0).nx u7
 have hk := I8; clear I8
 have hsum := I9; clear I9
 refine c_seq fun K11 hK11 => (c_seq fun K12 hK12 => (c_region (t_move rfl rfl rfl (t_move rfl rfl rfl (t_len Try.underlying36 rfl rfl rfl rfl (t_cmp rfl rfl rfl rfl rfl (t_nil' (hK12 _ _ (c_condp rfl (fun g10 => ?_) (fun g10 => ?_))))))))))
 ·
  have htk := ht _ (nth_mem (xs := xs) (i := k) (by omega))
  refine c_skip (hK11 _ _ (c_seq fun K13 hK13 => (c_block (c_seq fun K14 hK14 => (c_region (t_move rfl rfl rfl (t_move rfl rfl rfl ?_)))))))
  have i15 : k < xs.length := (by omega)
  refine t_index (j := k) Try.underlying36 Try.sizeOf97 rfl rfl rfl rfl ((hs.keep E10 (fun _ h => h)).addr (by omega)) rfl i15 (t_field Try.underlying97 rfl Try.sizeOf3 (o + k * 3 + 0) rfl rfl rfl rfl (t_load Try.isAgg3 rfl rfl rfl (((hs.keep E10 (fun _ h => h)).at_ k (by omega)) 0 _ rfl) (t_move rfl rfl rfl (t_cmp rfl rfl rfl rfl rfl (t_nil' (hK14 _ _ (c_condp rfl (fun g19 => ?_) (fun g19 => ?_))))))))
  ·
   refine c_region (t_move rfl rfl rfl (t_move rfl rfl rfl (t_move rfl rfl rfl ?_)))
   have i16 : k < xs.length := (by omega)
   refine t_index (j := k) Try.underlying36 Try.sizeOf97 rfl rfl rfl rfl ((hs.keep E10 (fun _ h => h)).addr (by omega)) rfl i16 (t_field Try.underlying97 rfl Try.sizeOf3 (o + k * 3 + 1) rfl rfl rfl rfl (t_load Try.isAgg3 rfl rfl rfl (((hs.keep E10 (fun _ h => h)).at_ k (by omega)) 1 _ rfl) (t_ari rfl rfl rfl rfl rfl (by omega) (t_assign rfl rfl rfl (t_nil' (hK13 _ _ (c_region (t_move rfl rfl rfl (t_ari rfl rfl rfl rfl rfl (by omega) (t_assign rfl rfl rfl (t_nil' ?_)))))))))))
   exact hK5 (k + 1) _ _ (by omega) ⟨rfl, rfl, (congrArg some (congrArg (Value.int .i64) (by rw [takeT (by omega), ofT_snoc]; first | rw [if_pos g19] | (rw [if_neg g19]; omega)))), rfl, trivial⟩ ⟨u7, (by omega), (by rw [takeT (by omega), ofT_snoc]; have htk := ht _ (nth_mem (xs := xs) (i := k) (by omega)); split <;> omega)⟩
  refine c_skip (hK13 _ _ (c_region (t_move rfl rfl rfl (t_ari rfl rfl rfl rfl rfl (by omega) (t_assign rfl rfl rfl (t_nil' ?_))))))
  exact hK5 (k + 1) _ _ (by omega) ⟨rfl, rfl, (congrArg some (congrArg (Value.int .i64) (by rw [takeT (by omega), ofT_snoc]; first | rw [if_pos g19] | (rw [if_neg g19]; omega)))), rfl, trivial⟩ ⟨u7, (by omega), (by rw [takeT (by omega), ofT_snoc]; have htk := ht _ (nth_mem (xs := xs) (i := k) (by omega)); split <;> omega)⟩
 refine c_exit (hK3 _ _ (c_seq fun K17 hK17 => (c_region (t_move rfl rfl rfl (t_assign rfl rfl rfl (t_nil' (hK17 _ _ (c_ret (f_ret1 (v := .int .i64 (ofT ((xs.take k).map HLay.v) bi)) Try.results58 rfl ?_)))))))))
 exact ⟨by rw [List.take_of_length_le (by omega)], E10⟩

theorem rIn_c (bs : List Bil) (caps : List Int) (R : RG) (n : Nat) (bi p : Int) (w0 : World) (hR : RM w0 R) (hst : StOk bs caps n R.st) (hn : n ≤ 100) :
    CallsV Try.prog 57 [.agg #[.slice R.ha R.hl.length R.hc, .slice R.sa R.sl.length R.sc, .slice R.la R.ld.length R.lc, .slice R.da R.lo.length R.dc, .slice R.ea R.se.length R.ec], .int .i64 bi, .int .i64 p] w0 (fun v w' => v = .int .i64 (inL bi (fun q => decide (q = p)) R.ld) ∧ Ext w0 w') := by
 obtain ⟨hld1, hld2⟩ := ld_few hst hn
 refine f_enter (N := 35) Try.func57 rfl rfl rfl (c_seq fun K1 hK1 => (c_region (t_box (cs := [.slice R.ha R.hl.length R.hc, .slice R.sa R.sl.length R.sc, .slice R.la R.ld.length R.lc, .slice R.da R.lo.length R.dc, .slice R.ea R.se.length R.ec]) rfl rfl rfl rfl (fun bk2 w3 ebk2 sbk2 B4 u5 => ?_))))
 have zu5 := u5.size
 refine t_assign rfl rfl rfl (t_nil' (hK1 _ _ (c_seq fun K7 hK7 => (c_region (t_assign rfl rfl rfl (t_nil' (hK7 _ _ (c_seq fun K8 hK8 => (c_seq fun K9 hK9 => (c_region (t_assign rfl rfl rfl (t_nil' (hK9 _ _ (c_block (c_loop (γ := Nat) (fun k => [(1, .int .i64 bi), (2, .int .i64 p), (3, .pointer (some ⟨bk2, 0, none⟩)), (7, .int .i64 (inL bi (fun q => decide (q = p)) (R.ld.take k))), (8, .int .i64 (k : Int))]) (fun k w => Upd (fun _ => False) w3 w ∧ (k ≤ R.ld.length) ∧ (0 ≤ inL bi (fun q => decide (q = p)) (R.ld.take k) ∧ inL bi (fun q => decide (q = p)) (R.ld.take k) ≤ 1000000 * k)) (fun k => R.ld.length - k) 0 ⟨rfl, rfl, rfl, rfl, rfl, trivial⟩ ⟨Upd.refl _ _, (Nat.zero_le _), (by simp [inL])⟩ ?_)))))))))))))))
 intro k w11 hW K10 hK10
 obtain ⟨u12, I13, I14⟩ := hW
 have zu12 := u12.size
 have E15 := ((Upd.refl (fun _ => False) w0).nx u5).nx u12
 have hk := I13; clear I13
 have hsum := I14; clear I14
 refine c_seq fun K16 hK16 => (c_seq fun K17 hK17 => (c_region (t_move rfl rfl rfl (t_field Try.underlying47 rfl Try.sizeOf44 (2) rfl rfl rfl rfl ?_))))
 have B18 := (B4.kx u12)
 refine t_load Try.isAgg44 rfl rfl rfl (B18.get rfl) (t_len Try.underlying44 rfl rfl rfl rfl (t_cmp rfl rfl rfl rfl rfl (t_nil' (hK17 _ _ (c_condp rfl (fun g13 => ?_) (fun g13 => ?_))))))
 ·
  have hlk := hld2 _ (nth_mem (xs := R.ld) (i := k) (by omega))
  have hok := hlk.2.2 bi
  refine c_skip (hK16 _ _ (c_seq fun K19 hK19 => (c_block (c_seq fun K20 hK20 => (c_region (t_field Try.underlying47 rfl Try.sizeOf44 (2) rfl rfl rfl rfl (t_load Try.isAgg44 rfl rfl rfl (B18.get rfl) (t_move rfl rfl rfl ?_))))))))
  have i21 : k < R.ld.length := (by omega)
  refine t_index (j := k) Try.underlying44 Try.sizeOf52 rfl rfl rfl rfl ((hR.land.keep E15 (fun _ h => h)).addr (by omega)) rfl i21 (t_field Try.underlying52 rfl Try.sizeOf3 (0 + k * 3 + 1) rfl rfl rfl rfl (t_load Try.isAgg3 rfl rfl rfl (((hR.land.keep E15 (fun _ h => h)).at_ k (by omega)) 1 _ rfl) (t_move rfl rfl rfl (t_cmp rfl rfl rfl rfl rfl (t_nil' (hK20 _ _ (c_condp rfl (fun g23 => ?_) (fun g23 => ?_))))))))
  ·
   refine c_region (t_move rfl rfl rfl (t_field Try.underlying47 rfl Try.sizeOf44 (2) rfl rfl rfl rfl (t_load Try.isAgg44 rfl rfl rfl (B18.get rfl) (t_move rfl rfl rfl ?_))))
   have i22 : k < R.ld.length := (by omega)
   refine t_index (j := k) Try.underlying44 Try.sizeOf52 rfl rfl rfl rfl ((hR.land.keep E15 (fun _ h => h)).addr (by omega)) rfl i22 (t_field Try.underlying52 rfl Try.sizeOf36 (0 + k * 3 + 2) rfl rfl rfl rfl (t_load Try.isAgg36 rfl rfl rfl (((hR.land.keep E15 (fun _ h => h)).at_ k (by omega)) 2 _ rfl) (t_move rfl rfl rfl (t_call own58 rfl rfl rfl rfl (rOf_c (nth R.ld k).xs ((nth R.ld k).ao) (nth R.ld k).g 0 ((nth R.ld k).cp) bi _ ((hR.parts (nth R.ld k) (nth_mem (by omega))).1.keep E15 (fun _ h => h)) hlk.1.1 hlk.1.2) (fun v23 w24 r26 => ?_)))))
   obtain ⟨rfl, u25⟩ := r26
   have zu25 := u25.size
   refine t_ari rfl rfl rfl rfl rfl (by omega) (t_assign rfl rfl rfl (t_nil' (hK19 _ _ (c_region (t_move rfl rfl rfl (t_ari rfl rfl rfl rfl rfl (by omega) (t_assign rfl rfl rfl (t_nil' ?_))))))))
   exact hK10 (k + 1) _ _ (by omega) ⟨rfl, rfl, rfl, (congrArg some (congrArg (Value.int .i64) (by rw [take_nth (by omega), inL_snoc]; first | rw [if_pos (decide_eq_true g23)] | (rw [if_neg (by simpa using g23)]; omega)))), rfl, trivial⟩ ⟨(u12.next u25 (fun _ _ h => h.elim)), (by omega), (by rw [take_nth (by omega), inL_snoc]; split <;> omega)⟩
  refine c_skip (hK19 _ _ (c_region (t_move rfl rfl rfl (t_ari rfl rfl rfl rfl rfl (by omega) (t_assign rfl rfl rfl (t_nil' ?_))))))
  exact hK10 (k + 1) _ _ (by omega) ⟨rfl, rfl, rfl, (congrArg some (congrArg (Value.int .i64) (by rw [take_nth (by omega), inL_snoc]; first | rw [if_pos (decide_eq_true g23)] | (rw [if_neg (by simpa using g23)]; omega)))), rfl, trivial⟩ ⟨u12, (by omega), (by rw [take_nth (by omega), inL_snoc]; split <;> omega)⟩
 refine c_exit (hK8 _ _ (c_seq fun K28 hK28 => (c_region (t_move rfl rfl rfl (t_assign rfl rfl rfl (t_nil' (hK28 _ _ (c_ret (f_ret1 (v := .int .i64 (inL bi (fun q => decide (q = p)) (R.ld.take k))) Try.results57 rfl ?_)))))))))
 exact ⟨by rw [List.take_of_length_le (by omega)], E15⟩

set_option maxHeartbeats 1000000 in
theorem rRecall_c (bs : List Bil) (caps : List Int) (R : RG) (n : Nat) (bi : Int) (w0 : World) (hR : RM w0 R) (hst : StOk bs caps n R.st) (hn : n ≤ 100) :
    CallsV Try.prog 27 [.agg #[.slice R.ha R.hl.length R.hc, .slice R.sa R.sl.length R.sc, .slice R.la R.ld.length R.lc, .slice R.da R.lo.length R.dc, .slice R.ea R.se.length R.ec], .int .i64 bi] w0 (fun v w' => ∃ ao g cp r, v = .slice ao (List.length r) cp ∧ r = recF R.st.landed bi ∧ Sl encI 1 w' ao g 0 r ∧ Ext w0 w') := by
 obtain ⟨hld1, hld2⟩ := ld_few hst hn
 refine f_enter (N := 34) Try.func27 rfl rfl rfl (c_seq fun K1 hK1 => (c_region (t_box (cs := [.slice R.ha R.hl.length R.hc, .slice R.sa R.sl.length R.sc, .slice R.la R.ld.length R.lc, .slice R.da R.lo.length R.dc, .slice R.ea R.se.length R.ec]) rfl rfl rfl rfl (fun bk2 w3 ebk2 sbk2 B4 u5 => ?_))))
 have zu5 := u5.size
 refine t_assign rfl rfl rfl (t_nil' (hK1 _ _ (c_seq fun K7 hK7 => (c_region (t_bslice (ps := []) (cs := []) (e := 3) rfl rfl ⟨rfl, rfl⟩ (fun w => by kernel_rfl) (fun bk8 w9 ebk8 sbk8 B10 u11 => ?_))))))
 have zu11 := u11.size
 refine t_assign rfl rfl rfl (t_nil' (hK7 _ _ (c_seq fun K13 hK13 => (c_seq fun K14 hK14 => (c_region (t_assign rfl rfl rfl (t_nil' (hK14 _ _ (c_block ?_)))))))))
 have hl5 := B10.lt
 have hac5 : Acc encI 1 3 bk8 w9 (some ⟨bk8, 0, none⟩) bk8 0 [] := Acc.ofBlk (xs := ([] : List Int)) encI 1 (fun _ => rfl) B10 (Nat.le_refl _) (by decide)
 refine c_loop (γ := Nat × Option Addr × Nat × Nat × List Int) (fun gg => [(1, .int .i64 bi), (2, .pointer (some ⟨bk2, 0, none⟩)), (5, .slice gg.2.1 gg.2.2.2.2.length gg.2.2.2.1), (6, .int .i64 (gg.1 : Int))]) (fun gg w => Upd (fun i => i = bk8) w9 w ∧ (gg.1 ≤ R.ld.length) ∧ (gg.2.2.2.2 = recF ((R.ld.take gg.1).map mkL) bi) ∧ (Acc encI 1 3 bk8 w gg.2.1 gg.2.2.1 gg.2.2.2.1 gg.2.2.2.2) ∧ (gg.2.2.2.2.length ≤ gg.1) ∧ (gg.2.2.1 = bk8 ∨ w9.heap.size ≤ gg.2.2.1)) (fun gg => R.ld.length - gg.1) (0, some ⟨bk8, 0, none⟩, bk8, 0, []) ⟨rfl, rfl, rfl, rfl, trivial⟩ ⟨Upd.refl _ _, (Nat.zero_le _), rfl, hac5, (Nat.le_refl 0), (.inl rfl)⟩ ?_
 intro gg w16 hW K15 hK15
 obtain ⟨k, ao5, g5, c5, rs⟩ := gg
 change WC _ _ _ _ _ _ [(1, .int .i64 bi), (2, .pointer (some ⟨bk2, 0, none⟩)), (5, .slice ao5 rs.length c5), (6, .int .i64 (k : Int))] _
 change Upd (fun i => i = bk8) w9 w16 ∧ (k ≤ R.ld.length) ∧ (rs = recF ((R.ld.take k).map mkL) bi) ∧ (Acc encI 1 3 bk8 w16 ao5 g5 c5 rs) ∧ (rs.length ≤ k) ∧ (g5 = bk8 ∨ w9.heap.size ≤ g5) at hW
 obtain ⟨u17, I18, I19, I20, I21, I22⟩ := hW
 have zu17 := u17.size
 have E23 := (((Upd.refl (fun _ => False) w0).nx u5).nx u11).next u17 (fun i hi h => by omega)
 have hk := I18; clear I18
 have hrs := I19; clear I19
 have hrA := I20; clear I20
 have hrl := I21; clear I21
 have hg5 := I22; clear I22
 have lt_g5 := hrA.lt
 refine c_seq fun K24 hK24 => (c_seq fun K25 hK25 => (c_region (t_move rfl rfl rfl (t_field Try.underlying47 rfl Try.sizeOf44 (2) rfl rfl rfl rfl ?_))))
 have B26 := ((B4.kx u11).keep u17 (by omega))
 refine t_load Try.isAgg44 rfl rfl rfl (B26.get rfl) (t_len Try.underlying44 rfl rfl rfl rfl (t_cmp rfl rfl rfl rfl rfl (t_nil' (hK25 _ _ (c_condp rfl (fun g12 => ?_) (fun g12 => ?_))))))
 ·
  have hlk := hld2 _ (nth_mem (xs := R.ld) (i := k) (by omega))
  have hok := hlk.2.2 bi
  refine c_skip (hK24 _ _ (c_seq fun K27 hK27 => (c_block (c_seq fun K28 hK28 => (c_region (t_field Try.underlying47 rfl Try.sizeOf44 (2) rfl rfl rfl rfl (t_load Try.isAgg44 rfl rfl rfl (B26.get rfl) (t_move rfl rfl rfl ?_))))))))
  have i29 : k < R.ld.length := (by omega)
  refine t_index (j := k) Try.underlying44 Try.sizeOf52 rfl rfl rfl rfl ((hR.land.keep E23 (fun _ h => h)).addr (by omega)) rfl i29 (t_field Try.underlying52 rfl Try.sizeOf36 (0 + k * 3 + 2) rfl rfl rfl rfl (t_load Try.isAgg36 rfl rfl rfl (((hR.land.keep E23 (fun _ h => h)).at_ k (by omega)) 2 _ rfl) (t_move rfl rfl rfl (t_call own58 rfl rfl rfl rfl (rOf_c (nth R.ld k).xs ((nth R.ld k).ao) (nth R.ld k).g 0 ((nth R.ld k).cp) bi _ ((hR.parts (nth R.ld k) (nth_mem (by omega))).1.keep E23 (fun _ h => h)) hlk.1.1 hlk.1.2) (fun v30 w31 r33 => ?_)))))
  obtain ⟨rfl, u32⟩ := r33
  have zu32 := u32.size
  have E34 := E23.nx u32
  refine t_cmp rfl rfl rfl rfl rfl (t_nil' (hK28 _ _ (c_condp rfl (fun g23 => ?_) (fun g23 => ?_))))
  ·
   refine c_region (t_move rfl rfl rfl (t_field Try.underlying47 rfl Try.sizeOf44 (2) rfl rfl rfl rfl ?_))
   have B35 := (B26.kx u32)
   refine t_load Try.isAgg44 rfl rfl rfl (B35.get rfl) (t_move rfl rfl rfl ?_)
   have i36 : k < R.ld.length := (by omega)
   refine t_index (j := k) Try.underlying44 Try.sizeOf52 rfl rfl rfl rfl ((hR.land.keep E34 (fun _ h => h)).addr (by omega)) rfl i36 (t_field Try.underlying52 rfl Try.sizeOf3 (0 + k * 3 + 0) rfl rfl rfl rfl (t_load Try.isAgg3 rfl rfl rfl (((hR.land.keep E34 (fun _ h => h)).at_ k (by omega)) 0 _ rfl) (t_bslice (ps := [(0, .int .i64 ((nth R.ld k).ev))]) (cs := [.int .i64 ((nth R.ld k).ev)]) (e := 3) rfl rfl ⟨rfl, rfl⟩ (fun w => by kernel_rfl) (fun bk37 w38 ebk37 sbk37 B39 u40 => ?_))))
   have zu40 := u40.size
   have D42 := ((hrA.keep u32 (fun _ h => h)).keep u40 (fun _ h => h))
   refine t_append (z := .int .i64 0) (bytes := 8) (k := 1) (base := bk8) ((nth R.ld k).ev) Try.underlying45 (by kernel_rfl) rfl (by decide) (fun _ => rfl) (by intro x; simp [encI, Value.oneCell']) rfl rfl rfl rfl D42 B39 (by omega) (by omega) (by decide) (fun ao43 gb44 cp45 w46 A47 u48 gegb44 lngb44 => ?_)
   have zu48 := u48.size
   have lt_gb44 := A47.lt
   refine t_assign rfl rfl rfl (t_nil' (hK27 _ _ (c_region (t_move rfl rfl rfl (t_ari rfl rfl rfl rfl rfl (by omega) (t_assign rfl rfl rfl (t_nil' ?_)))))))
   exact hK15 (k + 1, ao43, gb44, cp45, (rs ++ [(nth R.ld k).ev])) _ _ (by show R.ld.length - (k + 1) < R.ld.length - k; omega) ⟨rfl, rfl, rfl, rfl, trivial⟩ ⟨(((u17.next u32 (fun _ _ h => h.elim)).next u40 (fun _ _ h => h.elim)).next u48 (fun i hi h => by omega)), (by omega), (by rw [hrs, rec_snocL (by omega), if_pos g23]), A47, (by rw [List.length_append, List.length_singleton]; omega), (by show gb44 = bk8 ∨ _ ≤ gb44; omega)⟩
  refine c_skip (hK27 _ _ (c_region (t_move rfl rfl rfl (t_ari rfl rfl rfl rfl rfl (by omega) (t_assign rfl rfl rfl (t_nil' ?_))))))
  have D50 := (hrA.keep u32 (fun _ h => h))
  exact hK15 (k + 1, ao5, g5, c5, rs) _ _ (by show R.ld.length - (k + 1) < R.ld.length - k; omega) ⟨rfl, rfl, rfl, rfl, trivial⟩ ⟨(u17.next u32 (fun _ _ h => h.elim)), (by omega), (by rw [hrs, rec_snocL (by omega), if_neg g23]; exact (List.append_nil _).symm), D50, (by show rs.length ≤ k + 1; omega), (by show g5 = bk8 ∨ _ ≤ g5; omega)⟩
 refine c_exit (hK13 _ _ (c_seq fun K51 hK51 => (c_region (t_move rfl rfl rfl (t_assign rfl rfl rfl (t_nil' (hK51 _ _ (c_ret (f_ret1 (v := .slice ao5 rs.length c5) Try.results27 rfl ?_)))))))))
 exact ⟨ao5, g5, c5, rs, rfl, by rw [hrs, List.take_of_length_le (by omega)]; rfl, hrA.sl (fun _ => rfl), E23⟩

set_option maxHeartbeats 1000000 in
theorem rWhere_c (bs : List Bil) (ab : Option Addr) (bb ob cb : Nat) (hs : List Hld) (ah : Option Addr) (bh oh ch : Nat) (caps : List Int) (R : RG) (n : Nat) (bi : Int) (w0 : World) (hbs : Sl encBil 3 w0 ab bb ob bs) (hhs : Sl encHld 2 w0 ah bh oh hs) (hbl : bs.length ≤ 1000000) (hhl : hs.length ≤ 1000000) (hR : RM w0 R) (hst : StOk bs caps n R.st) (hn : n ≤ 100) (hbi : 0 ≤ bi ∧ bi < (bs.length : Int)) :
    CallsV Try.prog 25 [.agg #[.slice ab bs.length cb, .slice ah hs.length ch], .agg #[.slice R.ha R.hl.length R.hc, .slice R.sa R.sl.length R.sc, .slice R.la R.ld.length R.lc, .slice R.da R.lo.length R.dc, .slice R.ea R.se.length R.ec], .int .i64 bi] w0 (fun v w' => ∃ ao g cp r, v = .slice ao (List.length r) cp ∧ r = whP bs R.st bi ∧ Sl encShr 3 w' ao g 0 r ∧ Ext w0 w') := by
 obtain ⟨hld1, hld2⟩ := ld_few hst hn
 have hn1 : R.hl.length = caps.length := by have h := hst.hn; rwa [show R.st.hold.length = R.hl.length from List.length_map _] at h
 have hn5 := hst.h20
 have hn3 : R.lo.length = bs.length := hst.lsn
 have hbt := hst.bil _ (nth_mem (xs := bs) (i := bi.toNat) (by omega))
 simp only [okBil, decide_eq_true_eq] at hbt
 have hlr : 0 ≤ nth R.lo bi.toNat ∧ nth R.lo bi.toNat ≤ (nth bs bi.toNat).tons := hst.lsr bi.toNat (by show bi.toNat < R.lo.length; omega)
 refine f_enter (N := 72) Try.func25 rfl rfl rfl (c_seq fun K1 hK1 => (c_region (t_box (cs := [.slice ab bs.length cb, .slice ah hs.length ch]) rfl rfl rfl rfl (fun bk2 w3 ebk2 sbk2 B4 u5 => ?_))))
 have zu5 := u5.size
 refine t_box (cs := [.slice R.ha R.hl.length R.hc, .slice R.sa R.sl.length R.sc, .slice R.la R.ld.length R.lc, .slice R.da R.lo.length R.dc, .slice R.ea R.se.length R.ec]) rfl rfl rfl rfl (fun bk7 w8 ebk7 sbk7 B9 u10 => ?_)
 have zu10 := u10.size
 refine t_assign rfl rfl rfl (t_nil' (hK1 _ _ (c_seq fun K12 hK12 => (c_region (t_bslice (ps := []) (cs := []) (e := 71) rfl rfl ⟨rfl, rfl⟩ (fun w => by kernel_rfl) (fun bk13 w14 ebk13 sbk13 B15 u16 => ?_))))))
 have zu16 := u16.size
 have E17 := (((Upd.refl (fun _ => False) w0).nx u5).nx u10).nx u16
 refine t_assign rfl rfl rfl ?_
 have hl7 := B15.lt
 have hac7 : Acc encShr 3 71 bk13 w14 (some ⟨bk13, 0, none⟩) bk13 0 [] := Acc.ofBlk (xs := ([] : List Shr)) encShr 3 (fun _ => rfl) B15 (Nat.le_refl _) (by decide)
 have lt_bk13 := hac7.lt
 refine t_nil' (hK12 _ _ (c_cut (γ := Option Addr × Nat × Nat × List Shr) (fun gg => [(2, .int .i64 bi), (4, .pointer (some ⟨bk7, 0, none⟩)), (7, .slice gg.1 gg.2.2.2.length gg.2.2.1)]) (fun gg w => Upd (fun i => i = bk13) w14 w ∧ (gg.2.2.2 = one 0 0 ((nth bs bi.toNat).tons - nth R.lo bi.toNat)) ∧ (Acc encShr 3 71 bk13 w gg.1 gg.2.1 gg.2.2.1 gg.2.2.2) ∧ (gg.2.2.2.length ≤ 1) ∧ (gg.2.1 = bk13 ∨ w14.heap.size ≤ gg.2.1)) (fun K19 hK19 => ?_) ?_))
 ·
  refine c_seq fun K22 hK22 => (c_drawnQ follows (by kernel_rfl) (p_field Try.underlying25 rfl Try.sizeOf22 (0) rfl rfl rfl rfl ?_))
  have B27 := ((B4.kx u10).kx u16)
  refine p_load Try.isAgg22 rfl rfl rfl (B27.get rfl) (p_move rfl rfl rfl ?_)
  have i28 : bi.toNat < bs.length := (by omega)
  refine p_index (j := bi.toNat) Try.underlying22 Try.sizeOf93 rfl rfl rfl rfl ((hbs.keep E17 (fun _ h => h)).addr (by omega)) (by omega) i28 (p_field Try.underlying93 rfl Try.sizeOf3 (ob + bi.toNat * 3 + 0) rfl rfl rfl rfl (p_load Try.isAgg3 rfl rfl rfl (((hbs.keep E17 (fun _ h => h)).at_ bi.toNat (by omega)) 0 _ rfl) (p_field Try.underlying47 rfl Try.sizeOf45 (3) rfl rfl rfl rfl ?_)))
  have B29 := (B9.kx u16)
  refine p_load Try.isAgg45 rfl rfl rfl (B29.get rfl) (p_move rfl rfl rfl ?_)
  have i30 : bi.toNat < R.lo.length := (by omega)
  refine p_index (j := bi.toNat) Try.underlying45 Try.sizeOf3 rfl rfl rfl rfl ((hR.load.keep E17 (fun _ h => h)).addr (by omega)) (by omega) i30 (p_load Try.isAgg3 rfl rfl rfl (((hR.load.keep E17 (fun _ h => h)).at_ bi.toNat (by omega)) 0 _ rfl) (p_ari rfl rfl rfl rfl rfl (by omega) (p_assign rfl rfl rfl (p_nil fun w31 u32 => ?_))))
  have zu32 := u32.size
  refine t_nil' (hK22 _ _ (c_seq fun K34 hK34 => (c_region (t_move rfl rfl rfl (t_cmp rfl rfl rfl rfl rfl (t_nil' (hK34 _ _ (c_condp rfl (fun g27 => ?_) (fun g27 => ?_)))))))))
  ·
   refine c_region (t_move rfl rfl rfl (t_move rfl rfl rfl (t_build (ps := [(2, .int .i64 (((nth bs bi.toNat).tons) - (nth R.lo bi.toNat)))]) (v := .agg #[.int .i64 0, .int .i64 0, .int .i64 (((nth bs bi.toNat).tons) - (nth R.lo bi.toNat))]) rfl rfl ⟨rfl, rfl⟩ (fun w => by kernel_rfl) (t_bslice (ps := [(0, .agg #[.int .i64 0, .int .i64 0, .int .i64 (((nth bs bi.toNat).tons) - (nth R.lo bi.toNat))])]) (cs := [.int .i64 0, .int .i64 0, .int .i64 (((nth bs bi.toNat).tons) - (nth R.lo bi.toNat))]) (e := 71) rfl rfl ⟨rfl, rfl⟩ (fun w => by kernel_rfl) (fun bk35 w36 ebk35 sbk35 B37 u38 => ?_)))))
   have zu38 := u38.size
   have D40 := ((hac7.keep u32 (fun _ h => h)).keep u38 (fun _ h => h))
   refine t_append (z := .agg #[.int .i64 0, .int .i64 0, .int .i64 0]) (bytes := 24) (k := 3) (base := bk13) (⟨0, 0, (((nth bs bi.toNat).tons) - (nth R.lo bi.toNat))⟩ : Shr) Try.underlying55 (by kernel_rfl) rfl (by decide) (fun _ => rfl) (by intro x; simp [encShr, Value.oneCell']) rfl rfl rfl rfl D40 B37 (by omega) (by simp) (by decide) (fun ao41 gb42 cp43 w44 A45 u46 gegb42 lngb42 => ?_)
   have zu46 := u46.size
   have lt_gb42 := A45.lt
   refine t_assign rfl rfl rfl (t_nil' ?_)
   exact hK19 (ao41, gb42, cp43, (([] : List Shr) ++ [(⟨0, 0, (((nth bs bi.toNat).tons) - (nth R.lo bi.toNat))⟩ : Shr)])) _ _ ⟨rfl, rfl, rfl, trivial⟩ ⟨((((Upd.refl _ _).next u32 (fun _ _ h => h.elim)).next u38 (fun _ _ h => h.elim)).next u46 (fun i hi h => by omega)), (one_pos g27).symm, A45, (by show List.length (([] : List Shr) ++ [(⟨0, 0, (((nth bs bi.toNat).tons) - (nth R.lo bi.toNat))⟩ : Shr)]) ≤ 1; simp), (by show gb42 = bk13 ∨ _ ≤ gb42; omega)⟩
  refine c_skip ?_
  have D48 := (hac7.keep u32 (fun _ h => h))
  exact hK19 (some ⟨bk13, 0, none⟩, bk13, 0, ([] : List Shr)) _ _ ⟨rfl, rfl, rfl, trivial⟩ ⟨((Upd.refl _ _).next u32 (fun _ _ h => h.elim)), (one_neg g27).symm, D48, (by show List.length ([] : List Shr) ≤ 1; simp), (by show bk13 = bk13 ∨ _ ≤ bk13; omega)⟩
 intro gg w20 hW
 obtain ⟨ao4, g4, c4, rs4⟩ := gg
 change WC _ _ _ _ _ _ [(2, .int .i64 bi), (4, .pointer (some ⟨bk7, 0, none⟩)), (7, .slice ao4 rs4.length c4)] _
 change Upd (fun i => i = bk13) w14 w20 ∧ (rs4 = one 0 0 ((nth bs bi.toNat).tons - nth R.lo bi.toNat)) ∧ (Acc encShr 3 71 bk13 w20 ao4 g4 c4 rs4) ∧ (rs4.length ≤ 1) ∧ (g4 = bk13 ∨ w14.heap.size ≤ g4) at hW
 obtain ⟨u21, I49, I50, I51, I52⟩ := hW
 have zu21 := u21.size
 have hrs4 := I49; clear I49
 have hwA4 := I50; clear I50
 have hwl4 := I51; clear I51
 have hg4 := I52; clear I52
 have lt_g4 := hwA4.lt
 refine c_seq fun K54 hK54 => (c_seq fun K55 hK55 => (c_region (t_assign rfl rfl rfl (t_nil' (hK55 _ _ (c_block ?_))))))
 have hin6 := hwA4
 refine c_loop (γ := Nat × Option Addr × Nat × Nat × List Shr) (fun gg => [(2, .int .i64 bi), (4, .pointer (some ⟨bk7, 0, none⟩)), (7, .slice gg.2.1 gg.2.2.2.2.length gg.2.2.2.1), (9, .int .i64 (gg.1 : Int))]) (fun gg w => Upd (fun i => (i = g4 ∧ bk13 ≤ i)) w20 w ∧ (gg.1 ≤ R.hl.length) ∧ (gg.2.2.2.2 = rs4 ++ ((List.range gg.1).flatMap fun (i : Nat) => one 1 (i : Int) (ofT ((nth R.hl i).xs.map HLay.v) bi))) ∧ (Acc encShr 3 71 bk13 w gg.2.1 gg.2.2.1 gg.2.2.2.1 gg.2.2.2.2) ∧ (gg.2.2.2.2.length ≤ 1 + gg.1) ∧ (gg.2.2.1 = g4 ∨ w20.heap.size ≤ gg.2.2.1)) (fun gg => R.hl.length - gg.1) (0, ao4, g4, c4, rs4) ⟨rfl, rfl, rfl, rfl, trivial⟩ ⟨Upd.refl _ _, (Nat.zero_le _), (List.append_nil _).symm, hin6, (by show List.length rs4 ≤ _; first | omega | simp), (.inl rfl)⟩ ?_
 intro gg w57 hW K56 hK56
 obtain ⟨k6, ao6, g6, c6, rs6⟩ := gg
 change WC _ _ _ _ _ _ [(2, .int .i64 bi), (4, .pointer (some ⟨bk7, 0, none⟩)), (7, .slice ao6 rs6.length c6), (9, .int .i64 (k6 : Int))] _
 change Upd (fun i => (i = g4 ∧ bk13 ≤ i)) w20 w57 ∧ (k6 ≤ R.hl.length) ∧ (rs6 = rs4 ++ ((List.range k6).flatMap fun (i : Nat) => one 1 (i : Int) (ofT ((nth R.hl i).xs.map HLay.v) bi))) ∧ (Acc encShr 3 71 bk13 w57 ao6 g6 c6 rs6) ∧ (rs6.length ≤ 1 + k6) ∧ (g6 = g4 ∨ w20.heap.size ≤ g6) at hW
 obtain ⟨u58, I59, I60, I61, I62, I63⟩ := hW
 have zu58 := u58.size
 have E64 := (E17.next u21 (fun i hi h => by omega)).next u58 (fun i hi h => by omega)
 have hk6 := I59; clear I59
 have hrs6 := I60; clear I60
 have hwA6 := I61; clear I61
 have hwl6 := I62; clear I62
 have hg6 := I63; clear I63
 have lt_g6 := hwA6.lt
 refine c_seq fun K65 hK65 => (c_seq fun K66 hK66 => (c_region (t_move rfl rfl rfl (t_field Try.underlying47 rfl Try.sizeOf33 (0) rfl rfl rfl rfl ?_))))
 have B67 := (((B9.kx u16).keep u21 (by omega)).keep u58 (by omega))
 refine t_load Try.isAgg33 rfl rfl rfl (B67.get rfl) (t_len Try.underlying33 rfl rfl rfl rfl (t_cmp rfl rfl rfl rfl rfl (t_nil' (hK66 _ _ (c_condp rfl (fun g37 => ?_) (fun g37 => ?_))))))
 ·
  have hrk := row_few hst (i := k6) (by omega)
  have hok := ofT_le (l := (nth R.hl k6).xs.map HLay.v) (b := bi) (fun y hy => by obtain ⟨z, hz, rfl⟩ := List.mem_map.1 hy; exact (hrk.2.1 z hz).1)
  refine c_skip (hK65 _ _ (c_seq fun K68 hK68 => (c_block (c_seq fun K69 hK69 => (c_region (t_field Try.underlying47 rfl Try.sizeOf33 (0) rfl rfl rfl rfl (t_load Try.isAgg33 rfl rfl rfl (B67.get rfl) (t_move rfl rfl rfl ?_))))))))
  have i70 : k6 < R.hl.length := (by omega)
  refine t_index (j := k6) Try.underlying33 Try.sizeOf36 rfl rfl rfl rfl ((hR.hold.keep E64 (fun _ h => h)).addr (by omega)) rfl i70 (t_load Try.isAgg36 rfl rfl rfl (((hR.hold.keep E64 (fun _ h => h)).at_ k6 (by omega)) 0 _ rfl) (t_move rfl rfl rfl (t_call own58 rfl rfl rfl rfl (rOf_c (nth R.hl k6).xs ((nth R.hl k6).ao) (nth R.hl k6).g 0 ((nth R.hl k6).cp) bi _ ((hR.lays (nth R.hl k6) (nth_mem (by omega))).1.keep E64 (fun _ h => h)) hrk.1 hrk.2.1) (fun v71 w72 r74 => ?_))))
  obtain ⟨rfl, u73⟩ := r74
  have zu73 := u73.size
  refine t_assign rfl rfl rfl (t_nil' (hK69 _ _ (c_seq fun K76 hK76 => (c_region (t_move rfl rfl rfl (t_cmp rfl rfl rfl rfl rfl (t_nil' (hK76 _ _ (c_condp rfl (fun g48 => ?_) (fun g48 => ?_))))))))))
  ·
   refine c_region (t_move rfl rfl rfl (t_move rfl rfl rfl (t_move rfl rfl rfl (t_build (ps := [(0, .int .i64 1), (1, .int .i64 (k6 : Int)), (2, .int .i64 (ofT ((nth R.hl k6).xs.map HLay.v) bi))]) (v := .agg #[.int .i64 1, .int .i64 (k6 : Int), .int .i64 (ofT ((nth R.hl k6).xs.map HLay.v) bi)]) rfl rfl ⟨rfl, rfl⟩ (fun w => by kernel_rfl) (t_bslice (ps := [(0, .agg #[.int .i64 1, .int .i64 (k6 : Int), .int .i64 (ofT ((nth R.hl k6).xs.map HLay.v) bi)])]) (cs := [.int .i64 1, .int .i64 (k6 : Int), .int .i64 (ofT ((nth R.hl k6).xs.map HLay.v) bi)]) (e := 71) rfl rfl ⟨rfl, rfl⟩ (fun w => by kernel_rfl) (fun bk77 w78 ebk77 sbk77 B79 u80 => ?_))))))
   have zu80 := u80.size
   have D82 := ((hwA6.keep u73 (fun _ h => h)).keep u80 (fun _ h => h))
   refine t_append (z := .agg #[.int .i64 0, .int .i64 0, .int .i64 0]) (bytes := 24) (k := 3) (base := bk13) (⟨1, (k6 : Int), (ofT ((nth R.hl k6).xs.map HLay.v) bi)⟩ : Shr) Try.underlying55 (by kernel_rfl) rfl (by decide) (fun _ => rfl) (by intro x; simp [encShr, Value.oneCell']) rfl rfl rfl rfl D82 B79 (by omega) (by omega) (by decide) (fun ao83 gb84 cp85 w86 A87 u88 gegb84 lngb84 => ?_)
   have zu88 := u88.size
   have lt_gb84 := A87.lt
   refine t_assign rfl rfl rfl (t_nil' (hK68 _ _ (c_region (t_move rfl rfl rfl (t_ari rfl rfl rfl rfl rfl (by omega) (t_assign rfl rfl rfl (t_nil' ?_)))))))
   exact hK56 (k6 + 1, ao83, gb84, cp85, (rs6 ++ [(⟨1, (k6 : Int), (ofT ((nth R.hl k6).xs.map HLay.v) bi)⟩ : Shr)])) _ _ (by show R.hl.length - (k6 + 1) < R.hl.length - k6; omega) ⟨rfl, rfl, rfl, rfl, trivial⟩ ⟨(((u58.next u73 (fun _ _ h => h.elim)).next u80 (fun _ _ h => h.elim)).next u88 (fun i hi h => by omega)), (by omega), (by rw [fm_snoc, ← List.append_assoc, ← hrs6, one_pos g48]), A87, (by rw [List.length_append, List.length_singleton]; omega), (by show gb84 = g4 ∨ _ ≤ gb84; omega)⟩
  refine c_skip (hK68 _ _ (c_region (t_move rfl rfl rfl (t_ari rfl rfl rfl rfl rfl (by omega) (t_assign rfl rfl rfl (t_nil' ?_))))))
  have D90 := (hwA6.keep u73 (fun _ h => h))
  exact hK56 (k6 + 1, ao6, g6, c6, rs6) _ _ (by show R.hl.length - (k6 + 1) < R.hl.length - k6; omega) ⟨rfl, rfl, rfl, rfl, trivial⟩ ⟨(u58.next u73 (fun _ _ h => h.elim)), (by omega), (by rw [fm_snoc, ← List.append_assoc, ← hrs6, one_neg g48]; exact (List.append_nil _).symm), D90, (by show rs6.length ≤ _; omega), (by show g6 = g4 ∨ _ ≤ g6; omega)⟩
 refine c_exit (hK54 _ _ (c_seq fun K91 hK91 => (c_seq fun K92 hK92 => (c_region (t_assign rfl rfl rfl (t_nil' (hK92 _ _ (c_block ?_))))))))
 have hin12 := hwA6
 refine c_loop (γ := Nat × Option Addr × Nat × Nat × List Shr) (fun gg => [(2, .int .i64 bi), (4, .pointer (some ⟨bk7, 0, none⟩)), (7, .slice gg.2.1 gg.2.2.2.2.length gg.2.2.2.1), (11, .int .i64 (gg.1 : Int))]) (fun gg w => Upd (fun i => (i = g6 ∧ bk13 ≤ i)) w57 w ∧ (gg.1 ≤ 100) ∧ (gg.2.2.2.2 = rs6 ++ ((List.range gg.1).flatMap fun (p : Nat) => one 2 (p : Int) (inL bi (fun q => decide (q = (p : Int))) R.ld))) ∧ (Acc encShr 3 71 bk13 w gg.2.1 gg.2.2.1 gg.2.2.2.1 gg.2.2.2.2) ∧ (gg.2.2.2.2.length ≤ 21 + gg.1) ∧ (gg.2.2.1 = g6 ∨ w57.heap.size ≤ gg.2.2.1)) (fun gg => 100 - gg.1) (0, ao6, g6, c6, rs6) ⟨rfl, rfl, rfl, rfl, trivial⟩ ⟨Upd.refl _ _, (Nat.zero_le _), (List.append_nil _).symm, hin12, (by show List.length rs6 ≤ _; first | omega | simp), (.inl rfl)⟩ ?_
 intro gg w94 hW K93 hK93
 obtain ⟨k12, ao12, g12, c12, rs12⟩ := gg
 change WC _ _ _ _ _ _ [(2, .int .i64 bi), (4, .pointer (some ⟨bk7, 0, none⟩)), (7, .slice ao12 rs12.length c12), (11, .int .i64 (k12 : Int))] _
 change Upd (fun i => (i = g6 ∧ bk13 ≤ i)) w57 w94 ∧ (k12 ≤ 100) ∧ (rs12 = rs6 ++ ((List.range k12).flatMap fun (p : Nat) => one 2 (p : Int) (inL bi (fun q => decide (q = (p : Int))) R.ld))) ∧ (Acc encShr 3 71 bk13 w94 ao12 g12 c12 rs12) ∧ (rs12.length ≤ 21 + k12) ∧ (g12 = g6 ∨ w57.heap.size ≤ g12) at hW
 obtain ⟨u95, I96, I97, I98, I99, I100⟩ := hW
 have zu95 := u95.size
 have E101 := E64.next u95 (fun i hi h => by omega)
 have hk12 := I96; clear I96
 have hrs12 := I97; clear I97
 have hwA12 := I98; clear I98
 have hwl12 := I99; clear I99
 have hg12 := I100; clear I100
 have lt_g12 := hwA12.lt
 refine c_seq fun K102 hK102 => (c_seq fun K103 hK103 => (c_region (t_move rfl rfl rfl (t_cmp rfl rfl rfl rfl rfl (t_nil' (hK103 _ _ (c_condp rfl (fun g56 => ?_) (fun g56 => ?_))))))))
 ·
  have hok := inL_rng (b := bi) (Q := fun q => decide (q = (k12 : Int))) (fun q hq => (hld2 q hq).2.2 bi)
  refine c_skip (hK102 _ _ (c_seq fun K104 hK104 => (c_block (c_seq fun K105 hK105 => (c_region ?_)))))
  have B106 := (B67.keep u95 (by omega))
  refine t_loadN (vs := [.slice R.ha R.hl.length R.hc, .slice R.sa R.sl.length R.sc, .slice R.la R.ld.length R.lc, .slice R.da R.lo.length R.dc, .slice R.ea R.se.length R.ec]) Try.isAgg47 Try.sizeOf47 rfl rfl rfl (B106.at.sub 0 5) rfl (t_move rfl rfl rfl (t_move rfl rfl rfl (t_call own57 rfl rfl rfl rfl (rIn_c bs caps R n bi (k12 : Int) _ (hR.ext E101) hst hn) (fun v107 w108 r110 => ?_))))
  obtain ⟨rfl, u109⟩ := r110
  have zu109 := u109.size
  refine t_assign rfl rfl rfl (t_nil' (hK105 _ _ (c_seq fun K112 hK112 => (c_region (t_move rfl rfl rfl (t_cmp rfl rfl rfl rfl rfl (t_nil' (hK112 _ _ (c_condp rfl (fun g64 => ?_) (fun g64 => ?_))))))))))
  ·
   refine c_region (t_move rfl rfl rfl (t_move rfl rfl rfl (t_move rfl rfl rfl (t_build (ps := [(0, .int .i64 2), (1, .int .i64 (k12 : Int)), (2, .int .i64 (inL bi (fun z => decide (z = (k12 : Int))) R.ld))]) (v := .agg #[.int .i64 2, .int .i64 (k12 : Int), .int .i64 (inL bi (fun z => decide (z = (k12 : Int))) R.ld)]) rfl rfl ⟨rfl, rfl⟩ (fun w => by kernel_rfl) (t_bslice (ps := [(0, .agg #[.int .i64 2, .int .i64 (k12 : Int), .int .i64 (inL bi (fun z => decide (z = (k12 : Int))) R.ld)])]) (cs := [.int .i64 2, .int .i64 (k12 : Int), .int .i64 (inL bi (fun z => decide (z = (k12 : Int))) R.ld)]) (e := 71) rfl rfl ⟨rfl, rfl⟩ (fun w => by kernel_rfl) (fun bk113 w114 ebk113 sbk113 B115 u116 => ?_))))))
   have zu116 := u116.size
   have D118 := ((hwA12.keep u109 (fun _ h => h)).keep u116 (fun _ h => h))
   refine t_append (z := .agg #[.int .i64 0, .int .i64 0, .int .i64 0]) (bytes := 24) (k := 3) (base := bk13) (⟨2, (k12 : Int), (inL bi (fun z => decide (z = (k12 : Int))) R.ld)⟩ : Shr) Try.underlying55 (by kernel_rfl) rfl (by decide) (fun _ => rfl) (by intro x; simp [encShr, Value.oneCell']) rfl rfl rfl rfl D118 B115 (by omega) (by omega) (by decide) (fun ao119 gb120 cp121 w122 A123 u124 gegb120 lngb120 => ?_)
   have zu124 := u124.size
   have lt_gb120 := A123.lt
   refine t_assign rfl rfl rfl (t_nil' (hK104 _ _ (c_region (t_move rfl rfl rfl (t_ari rfl rfl rfl rfl rfl (by omega) (t_assign rfl rfl rfl (t_nil' ?_)))))))
   exact hK93 (k12 + 1, ao119, gb120, cp121, (rs12 ++ [(⟨2, (k12 : Int), (inL bi (fun z => decide (z = (k12 : Int))) R.ld)⟩ : Shr)])) _ _ (by show 100 - (k12 + 1) < 100 - k12; omega) ⟨rfl, rfl, rfl, rfl, trivial⟩ ⟨(((u95.next u109 (fun _ _ h => h.elim)).next u116 (fun _ _ h => h.elim)).next u124 (fun i hi h => by omega)), (by omega), (by rw [fm_snoc, ← List.append_assoc, ← hrs12, one_pos g64]), A123, (by rw [List.length_append, List.length_singleton]; omega), (by show gb120 = g6 ∨ _ ≤ gb120; omega)⟩
  refine c_skip (hK104 _ _ (c_region (t_move rfl rfl rfl (t_ari rfl rfl rfl rfl rfl (by omega) (t_assign rfl rfl rfl (t_nil' ?_))))))
  have D126 := (hwA12.keep u109 (fun _ h => h))
  exact hK93 (k12 + 1, ao12, g12, c12, rs12) _ _ (by show 100 - (k12 + 1) < 100 - k12; omega) ⟨rfl, rfl, rfl, rfl, trivial⟩ ⟨(u95.next u109 (fun _ _ h => h.elim)), (by omega), (by rw [fm_snoc, ← List.append_assoc, ← hrs12, one_neg g64]; exact (List.append_nil _).symm), D126, (by show rs12.length ≤ _; omega), (by show g12 = g6 ∨ _ ≤ g12; omega)⟩
 refine c_exit (hK91 _ _ (c_seq fun K127 hK127 => (c_region (t_move rfl rfl rfl (t_assign rfl rfl rfl (t_nil' (hK127 _ _ (c_ret (f_ret1 (v := .slice ao12 rs12.length c12) Try.results25 rfl ?_)))))))))
 exact ⟨ao12, g12, c12, rs12, rfl, by rw [hrs12, hrs6, hrs4, show k6 = R.hl.length by omega, show k12 = 100 by omega]; exact whR, hwA12.sl (fun _ => rfl), E101⟩

theorem inL_eq2 (b : Int) (P : Int → Bool) (R : RG) : inL b P R.ld = inS b P R.st.landed := inL_eq b P R.ld

set_option maxHeartbeats 1000000 in
theorem rControl_c (bs : List Bil) (ab : Option Addr) (bb ob cb : Nat) (hs : List Hld) (ah : Option Addr) (bh oh ch : Nat) (caps : List Int) (R : RG) (n : Nat) (w0 : World) (hbs : Sl encBil 3 w0 ab bb ob bs) (hhs : Sl encHld 2 w0 ah bh oh hs) (hbl : bs.length ≤ 1000000) (hhl : hs.length ≤ 1000000) (hR : RM w0 R) (hst : StOk bs caps n R.st) (hn : n ≤ 100) :
    CallsV Try.prog 24 [.agg #[.slice ab bs.length cb, .slice ah hs.length ch], .agg #[.slice R.ha R.hl.length R.hc, .slice R.sa R.sl.length R.sc, .slice R.la R.ld.length R.lc, .slice R.da R.lo.length R.dc, .slice R.ea R.se.length R.ec]] w0 (fun v w' => ∃ ao g cp r, v = .slice ao (List.length r) cp ∧ r = (List.range bs.length).map (coP bs R.st) ∧ Sl encCnt 4 w' ao g 0 r ∧ Ext w0 w') := by
 obtain ⟨hld1, hld2⟩ := ld_few hst hn
 have hn1 : R.hl.length = caps.length := by have h := hst.hn; rwa [show R.st.hold.length = R.hl.length from List.length_map _] at h
 have hn5 := hst.h20
 have hn3 : R.lo.length = bs.length := hst.lsn
 have hn4 := hst.bn
 refine f_enter (N := 76) Try.func24 rfl rfl rfl (c_seq fun K1 hK1 => (c_region (t_box (cs := [.slice ab bs.length cb, .slice ah hs.length ch]) rfl rfl rfl rfl (fun bk2 w3 ebk2 sbk2 B4 u5 => ?_))))
 have zu5 := u5.size
 refine t_box (cs := [.slice R.ha R.hl.length R.hc, .slice R.sa R.sl.length R.sc, .slice R.la R.ld.length R.lc, .slice R.da R.lo.length R.dc, .slice R.ea R.se.length R.ec]) rfl rfl rfl rfl (fun bk7 w8 ebk7 sbk7 B9 u10 => ?_)
 have zu10 := u10.size
 refine t_assign rfl rfl rfl (t_nil' (hK1 _ _ (c_seq fun K12 hK12 => (c_region (t_bslice (ps := []) (cs := []) (e := 65) rfl rfl ⟨rfl, rfl⟩ (fun w => by kernel_rfl) (fun bk13 w14 ebk13 sbk13 B15 u16 => ?_))))))
 have zu16 := u16.size
 refine t_assign rfl rfl rfl ?_
 have hl5 := B15.lt
 have hac5 : Acc encCnt 4 65 bk13 w14 (some ⟨bk13, 0, none⟩) bk13 0 [] := Acc.ofBlk (xs := ([] : List Cnt)) encCnt 4 (fun _ => rfl) B15 (Nat.le_refl _) (by decide)
 have lt_bk13 := hac5.lt
 refine t_nil' (hK12 _ _ (c_seq fun K18 hK18 => (c_seq fun K19 hK19 => (c_region (t_assign rfl rfl rfl (t_nil' (hK19 _ _ (c_block (c_loop (γ := Nat × Option Addr × Nat × Nat × List Cnt) (fun gg => [(2, .pointer (some ⟨bk2, 0, none⟩)), (3, .pointer (some ⟨bk7, 0, none⟩)), (5, .slice gg.2.1 gg.2.2.2.2.length gg.2.2.2.1), (6, .int .i64 (gg.1 : Int))]) (fun gg w => Upd (fun i => i = bk13) w14 w ∧ (gg.1 ≤ bs.length) ∧ (gg.2.2.2.2 = (List.range gg.1).map (coP bs R.st)) ∧ (Acc encCnt 4 65 bk13 w gg.2.1 gg.2.2.1 gg.2.2.2.1 gg.2.2.2.2) ∧ (gg.2.2.2.2.length ≤ gg.1) ∧ (gg.2.2.1 = bk13 ∨ w14.heap.size ≤ gg.2.2.1)) (fun gg => bs.length - gg.1) (0, some ⟨bk13, 0, none⟩, bk13, 0, []) ⟨rfl, rfl, rfl, rfl, trivial⟩ ⟨Upd.refl _ _, (Nat.zero_le _), rfl, hac5, (Nat.le_refl 0), (.inl rfl)⟩ ?_)))))))))
 intro gg w21 hW K20 hK20
 obtain ⟨k, ao5, g5, c5, rs⟩ := gg
 change WC _ _ _ _ _ _ [(2, .pointer (some ⟨bk2, 0, none⟩)), (3, .pointer (some ⟨bk7, 0, none⟩)), (5, .slice ao5 rs.length c5), (6, .int .i64 (k : Int))] _
 change Upd (fun i => i = bk13) w14 w21 ∧ (k ≤ bs.length) ∧ (rs = (List.range k).map (coP bs R.st)) ∧ (Acc encCnt 4 65 bk13 w21 ao5 g5 c5 rs) ∧ (rs.length ≤ k) ∧ (g5 = bk13 ∨ w14.heap.size ≤ g5) at hW
 obtain ⟨u22, I23, I24, I25, I26, I27⟩ := hW
 have zu22 := u22.size
 have E28 := ((((Upd.refl (fun _ => False) w0).nx u5).nx u10).nx u16).next u22 (fun i hi h => by omega)
 have hk := I23; clear I23
 have hrs := I24; clear I24
 have hcA := I25; clear I25
 have hcl := I26; clear I26
 have hg5 := I27; clear I27
 have lt_g5 := hcA.lt
 refine c_seq fun K29 hK29 => (c_seq fun K30 hK30 => (c_region (t_move rfl rfl rfl (t_field Try.underlying25 rfl Try.sizeOf22 (0) rfl rfl rfl rfl ?_))))
 have B31 := (((B4.kx u10).kx u16).keep u22 (by omega))
 refine t_load Try.isAgg22 rfl rfl rfl (B31.get rfl) (t_len Try.underlying22 rfl rfl rfl rfl (t_cmp rfl rfl rfl rfl rfl (t_nil' (hK30 _ _ (c_condp rfl (fun g15 => ?_) (fun g15 => ?_))))))
 ·
  have hin := inL_rng (b := (k : Int)) (Q := fun q => decide (q = (nth bs k).to)) (fun q hq => (hld2 q hq).2.2 _)
  refine c_skip (hK29 _ _ (c_seq fun K32 hK32 => (c_block (c_seq fun K33 hK33 => ?_))))
  have B34 := ((B9.kx u16).keep u22 (by omega))
  refine c_drawn follows 17 [some (18, some (.pointer (some ⟨bk7, 3, none⟩))), some (19, some (.slice R.da R.lo.length R.dc)), some (20, some (.int .i64 (k : Int))), some (21, some (.pointer (some ⟨R.dg, 0 + k * 1, none⟩))), some (22, some (.int .i64 (nth R.lo k))), some (23, some (.agg #[.slice R.ha R.hl.length R.hc, .slice R.sa R.sl.length R.sc, .slice R.la R.ld.length R.lc, .slice R.da R.lo.length R.dc, .slice R.ea R.se.length R.ec])), some (24, some (.int .i64 (k : Int))), some (25, some (.pointer (some ⟨bk2, 0, none⟩))), some (26, some (.slice ab bs.length cb)), some (27, some (.int .i64 (k : Int))), some (28, some (.pointer (some ⟨bb, ob + k * 3, none⟩))), some (29, some (.pointer (some ⟨bb, ob + k * 3 + 2, none⟩))), some (30, some (.int .i64 ((nth bs k).to))), some (31, some (.int .i64 (inL (k : Int) (fun z => decide (z = (nth bs k).to)) R.ld))), some (32, some (.agg #[.int .i64 (nth R.lo k), .int .i64 0, .int .i64 (inL (k : Int) (fun z => decide (z = (nth bs k).to)) R.ld), .int .i64 0])), some (7, none), none] [[],[0],[],[1,2],[3],[],[],[],[7],[],[8,9],[10],[11],[5,6,12],[4,13],[],[15,14,13,0,1,2,3,4,5,6,7,8,9,10,11,12,13,14,15]] (fun D ρ w => Upd (fun _ => False) w21 w ∧ (D 15 = true → ∃ bk42, ρ 15 = .pointer (some ⟨bk42, 0, none⟩) ∧ w21.heap.size ≤ bk42 ∧ Blk w bk42 65 [(bif D 16 then .int .i64 (nth R.lo k) else .int .i64 0), (bif D 16 then .int .i64 0 else .int .i64 0), (bif D 16 then .int .i64 (inL (k : Int) (fun z => decide (z = (nth bs k).to)) R.ld) else .int .i64 0), (bif D 16 then .int .i64 0 else .int .i64 0)])) rfl rfl rfl (by kernel_rfl) (by kernel_rfl) ⟨(Upd.drew _).to, (fun h => by cases h)⟩ ⟨?_, ?_, ?_, ?_, ?_, ?_, ?_, ?_, ?_, ?_, ?_, ?_, ?_, ?_, ?_, ?_, ?_, trivial⟩ ?_
  · exact pzf Try.underlying47 rfl Try.sizeOf45 (3) rfl rfl rfl rfl rfl fun _ _ _ h => h
  · exact fun D ρ w47 hcD hnD hdD hW => ⟨_, kf_fr [18], fun Lr => t_load Try.isAgg45 rfl rfl rfl ((B34.kx hW.1).get rfl) (dz rfl hW)⟩
  · exact pz rfl rfl rfl rfl fun _ _ _ h => h
  ·
   intro D ρ w52 hcD hnD hdD hW
   obtain ⟨u53, F54⟩ := hW
   have zu53 := u53.size
   refine ⟨_, kf_fr [19, 20], fun Lr => ?_⟩
   have i56 : k < R.lo.length := (by omega)
   refine t_index (j := k) Try.underlying45 Try.sizeOf3 rfl rfl rfl rfl ((hR.load.keep (E28.nx u53) (fun _ h => h)).addr (by omega)) rfl i56 ?_
   exact dz rfl ⟨u53, F54⟩
  ·
   intro D ρ w57 hcD hnD hdD hW
   obtain ⟨u58, F59⟩ := hW
   have zu58 := u58.size
   refine ⟨_, kf_fr [21], fun Lr => ?_⟩
   refine t_load Try.isAgg3 rfl rfl rfl (((hR.load.keep (E28.nx u58) (fun _ h => h)).at_ k (by omega)) 0 _ rfl) ?_
   exact dz rfl ⟨u58, F59⟩
  · exact fun D ρ w61 hcD hnD hdD hW => ⟨_, kf_fr [3], fun Lr => t_loadN (vs := [.slice R.ha R.hl.length R.hc, .slice R.sa R.sl.length R.sc, .slice R.la R.ld.length R.lc, .slice R.da R.lo.length R.dc, .slice R.ea R.se.length R.ec]) Try.isAgg47 Try.sizeOf47 rfl rfl rfl ((B34.kx hW.1).at.sub 0 5) rfl (dz rfl hW)⟩
  · exact pz rfl rfl rfl rfl fun _ _ _ h => h
  · exact pzf Try.underlying25 rfl Try.sizeOf22 (0) rfl rfl rfl rfl rfl fun _ _ _ h => h
  · exact fun D ρ w66 hcD hnD hdD hW => ⟨_, kf_fr [25], fun Lr => t_load Try.isAgg22 rfl rfl rfl ((B31.kx hW.1).get rfl) (dz rfl hW)⟩
  · exact pz rfl rfl rfl rfl fun _ _ _ h => h
  ·
   intro D ρ w71 hcD hnD hdD hW
   obtain ⟨u72, F73⟩ := hW
   have zu72 := u72.size
   refine ⟨_, kf_fr [26, 27], fun Lr => ?_⟩
   have i75 : k < bs.length := (by omega)
   refine t_index (j := k) Try.underlying22 Try.sizeOf93 rfl rfl rfl rfl ((hbs.keep (E28.nx u72) (fun _ h => h)).addr (by omega)) rfl i75 ?_
   exact dz rfl ⟨u72, F73⟩
  · exact pzf Try.underlying93 rfl Try.sizeOf3 (ob + k * 3 + 2) rfl rfl rfl rfl rfl fun _ _ _ h => h
  ·
   intro D ρ w76 hcD hnD hdD hW
   obtain ⟨u77, F78⟩ := hW
   have zu77 := u77.size
   refine ⟨_, kf_fr [29], fun Lr => ?_⟩
   refine t_load Try.isAgg3 rfl rfl rfl (((hbs.keep (E28.nx u77) (fun _ h => h)).at_ k (by omega)) 2 _ rfl) ?_
   exact dz rfl ⟨u77, F78⟩
  ·
   intro D ρ w80 hcD hnD hdD hW
   obtain ⟨u81, F82⟩ := hW
   have zu81 := u81.size
   refine ⟨_, kf_fr [23, 24, 30], fun Lr => ?_⟩
   refine t_call own57 rfl rfl rfl rfl (rIn_c bs caps R n (k : Int) ((nth bs k).to) _ (hR.ext (E28.nx u81)) hst hn) (fun v84 w85 r87 => ?_)
   obtain ⟨rfl, u86⟩ := r87
   have zu86 := u86.size
   exact dz rfl ⟨(u81.next u86 (fun _ _ h => h.elim)), (fun h => by obtain ⟨b, e, hge, hB⟩ := F82 h; exact ⟨b, e, hge, (hB.keep u86 (fun h => h))⟩)⟩
  · exact fun D ρ w _ _ _ hW => ⟨[(22, .int .i64 (nth R.lo k)), (31, .int .i64 (inL (k : Int) (fun z => decide (z = (nth bs k).to)) R.ld))], ⟨fi 4 rfl rfl rfl, fi 13 rfl rfl rfl, trivial⟩, fun Lr => t_build (ps := [(0, .int .i64 (nth R.lo k)), (2, .int .i64 (inL (k : Int) (fun z => decide (z = (nth bs k).to)) R.ld))]) (v := .agg #[.int .i64 (nth R.lo k), .int .i64 0, .int .i64 (inL (k : Int) (fun z => decide (z = (nth bs k).to)) R.ld), .int .i64 0]) rfl rfl ⟨rfl, rfl⟩ (fun w => by kernel_rfl) (dz rfl hW)⟩
  ·
   intro D ρ w89 hcD hnD hdD hW
   obtain ⟨u90, F91⟩ := hW
   have zu90 := u90.size
   refine ⟨[], trivial, fun Lr => ?_⟩
   refine t_alloc (cs := [.int .i64 0, .int .i64 0, .int .i64 0, .int .i64 0]) Try.zeroValue65 rfl rfl rfl (fun bk93 w94 ebk93 sbk93 B95 u96 => ?_)
   have zu96 := u96.size
   have d16 := hcD.late 16 hnD rfl
   exact dzn rfl ⟨(u90.next u96 (fun _ _ h => h.elim)), (fun _ => ⟨bk93, rfl, (by omega), (by show Blk w94 bk93 65 [(bif D 16 then .int .i64 (nth R.lo k) else .int .i64 0), (bif D 16 then .int .i64 0 else .int .i64 0), (bif D 16 then .int .i64 (inL (k : Int) (fun z => decide (z = (nth bs k).to)) R.ld) else .int .i64 0), (bif D 16 then .int .i64 0 else .int .i64 0)]; simp only [d16, cond_false]; exact B95)⟩)⟩
  ·
   intro D ρ w98 hcD hnD hdD hW
   obtain ⟨u99, F100⟩ := hW
   have zu99 := u99.size
   obtain ⟨bk42, e102, gebk42, B103⟩ := F100 (hdD 15 rfl)
   have B104 := B103
   simp only [hnD, cond_false] at B104
   refine ⟨[(7, .pointer (some ⟨bk42, 0, none⟩)), (32, .agg #[.int .i64 (nth R.lo k), .int .i64 0, .int .i64 (inL (k : Int) (fun z => decide (z = (nth bs k).to)) R.ld), .int .i64 0])], ⟨fi 15 rfl rfl e102.symm, fi 14 rfl rfl rfl, trivial⟩, fun Lr => ?_⟩
   refine t_st (vs := [.int .i64 (nth R.lo k), .int .i64 0, .int .i64 (inL (k : Int) (fun z => decide (z = (nth bs k).to)) R.ld), .int .i64 0]) Try.sizeOf65 rfl rfl rfl B104 rfl rfl rfl rfl (fun w105 sw105 B107 u106 => ?_)
   have zu106 := u106.size
   have B107 : Blk w105 bk42 65 [.int .i64 (nth R.lo k), .int .i64 0, .int .i64 (inL (k : Int) (fun z => decide (z = (nth bs k).to)) R.ld), .int .i64 0] := B107
   exact dz0 rfl ⟨(u99.next u106 (fun i hi h => by omega)), (fun _ => ⟨bk42, e102, gebk42, (by show Blk w105 bk42 65 [.int .i64 (nth R.lo k), .int .i64 0, .int .i64 (inL (k : Int) (fun z => decide (z = (nth bs k).to)) R.ld), .int .i64 0]; exact B107)⟩)⟩
  intro ρ w109 hW
  obtain ⟨u110, F111⟩ := hW
  have zu110 := u110.size
  obtain ⟨bk42, e113, gebk42, B114⟩ := F111 rfl
  have B114 : Blk w109 bk42 65 [.int .i64 (nth R.lo k), .int .i64 0, .int .i64 (inL (k : Int) (fun z => decide (z = (nth bs k).to)) R.ld), .int .i64 0] := B114
  have lt_bk42 := B114.lt
  refine QK.weak [(2, .pointer (some ⟨bk2, 0, none⟩)), (3, .pointer (some ⟨bk7, 0, none⟩)), (5, .slice ao5 rs.length c5), (6, .int .i64 (k : Int)), (7, .pointer (some ⟨bk42, 0, none⟩))] ⟨rfl, rfl, rfl, rfl, (look_nd (j := 15) rfl rfl rfl e113), trivial⟩ (hK33 _ _ (c_seq fun K115 hK115 => (c_seq fun K116 hK116 => (c_region (t_assign rfl rfl rfl (t_nil' (hK116 _ _ (c_block (c_loop (γ := Nat) (fun j => [(2, .pointer (some ⟨bk2, 0, none⟩)), (3, .pointer (some ⟨bk7, 0, none⟩)), (5, .slice ao5 rs.length c5), (6, .int .i64 (k : Int)), (7, .pointer (some ⟨bk42, 0, none⟩)), (8, .int .i64 (j : Int))]) (fun j w => Upd (fun i => i = bk42) w109 w ∧ Blk w bk42 65 [.int .i64 (nth R.lo k), .int .i64 (sumH (k : Int) (R.st.hold.take j)), .int .i64 (inL (k : Int) (fun z => decide (z = (nth bs k).to)) R.ld), .int .i64 0] ∧ (j ≤ R.hl.length) ∧ (0 ≤ (sumH (k : Int) (R.st.hold.take j)) ∧ (sumH (k : Int) (R.st.hold.take j)) ≤ 1000000 * j)) (fun j => R.hl.length - j) 0 ⟨rfl, rfl, rfl, rfl, rfl, rfl, trivial⟩ ⟨Upd.refl _ _, B114, (Nat.zero_le _), (by simp [sumH])⟩ ?_)))))))))
  intro j w118 hW K117 hK117
  obtain ⟨u119, I120, I121, I122⟩ := hW
  have zu119 := u119.size
  have E123 := (E28.nx u110).next u119 (fun i hi h => by omega)
  have hj0 := I121; clear I121
  have hjs := I122; clear I122
  refine c_seq fun K124 hK124 => (c_seq fun K125 hK125 => (c_region (t_move rfl rfl rfl (t_field Try.underlying47 rfl Try.sizeOf33 (0) rfl rfl rfl rfl ?_))))
  have B126 := ((B34.kx u110).keep u119 (by omega))
  refine t_load Try.isAgg33 rfl rfl rfl (B126.get rfl) (t_len Try.underlying33 rfl rfl rfl rfl (t_cmp rfl rfl rfl rfl rfl (t_nil' (hK125 _ _ (c_condp rfl (fun g37 => ?_) (fun g37 => ?_))))))
  ·
   have hrk := row_few hst (i := j) (by omega)
   have hok := ofT_le (l := (nth R.hl j).xs.map HLay.v) (b := (k : Int)) (fun y hy => by obtain ⟨z, hz, rfl⟩ := List.mem_map.1 hy; exact (hrk.2.1 z hz).1)
   refine c_skip (hK124 _ _ (c_seq fun K127 hK127 => (c_block (c_drawnR follows 11 (by kernel_rfl) (p_field Try.underlying65 rfl Try.sizeOf3 (1) rfl rfl rfl rfl (p_load Try.isAgg3 rfl rfl rfl (I120.get rfl) (p_field Try.underlying47 rfl Try.sizeOf33 (0) rfl rfl rfl rfl (p_load Try.isAgg33 rfl rfl rfl (B126.get rfl) (p_move rfl rfl rfl ?_)))))))))
   have i131 : j < R.hl.length := (by omega)
   refine p_index (j := j) Try.underlying33 Try.sizeOf36 rfl rfl rfl rfl ((hR.hold.keep E123 (fun _ h => h)).addr (by omega)) rfl i131 (p_load Try.isAgg36 rfl rfl rfl (((hR.hold.keep E123 (fun _ h => h)).at_ j (by omega)) 0 _ rfl) (p_move rfl rfl rfl (p_call (v := .int .i64 (ofT ((nth R.hl j).xs.map HLay.v) (k : Int))) own58 rfl rfl rfl rfl (fun _ u132 => (rOf_c (nth R.hl j).xs ((nth R.hl j).ao) (nth R.hl j).g 0 ((nth R.hl j).cp) (k : Int) _ ((hR.lays (nth R.hl j) (nth_mem (by omega))).1.keep (E123.nx u132) (fun _ h => h)) hrk.1 hrk.2.1)) (p_ari rfl rfl rfl rfl rfl (by omega) (p_field Try.underlying65 rfl Try.sizeOf3 (1) rfl rfl rfl rfl (p_nil fun w134 u135 => ?_))))))
   have zu135 := u135.size
   have B137 := (I120.kx u135)
   refine t_st (vs := [.int .i64 ((sumH (k : Int) (R.st.hold.take j)) + (ofT ((nth R.hl j).xs.map HLay.v) (k : Int)))]) Try.sizeOf3 rfl rfl rfl B137 rfl rfl rfl rfl (fun w138 sw138 B140 u139 => ?_)
   have zu139 := u139.size
   have B140 : Blk w138 bk42 65 [.int .i64 (nth R.lo k), .int .i64 ((sumH (k : Int) (R.st.hold.take j)) + (ofT ((nth R.hl j).xs.map HLay.v) (k : Int))), .int .i64 (inL (k : Int) (fun z => decide (z = (nth bs k).to)) R.ld), .int .i64 0] := B140
   have B142 : Blk w138 bk42 65 [.int .i64 (nth R.lo k), .int .i64 (sumH (k : Int) (R.st.hold.take (j + 1))), .int .i64 (inL (k : Int) (fun z => decide (z = (nth bs k).to)) R.ld), .int .i64 0] := by
     have e : ([.int .i64 (nth R.lo k), .int .i64 ((sumH (k : Int) (R.st.hold.take j)) + (ofT ((nth R.hl j).xs.map HLay.v) (k : Int))), .int .i64 (inL (k : Int) (fun z => decide (z = (nth bs k).to)) R.ld), .int .i64 0] : List Value) = [.int .i64 (nth R.lo k), .int .i64 (sumH (k : Int) (R.st.hold.take (j + 1))), .int .i64 (inL (k : Int) (fun z => decide (z = (nth bs k).to)) R.ld), .int .i64 0] := (by rw [sumH_at (by omega)])
     rw [← e]; exact B140
   refine t_nil' (hK127 _ _ (c_region (t_move rfl rfl rfl (t_ari rfl rfl rfl rfl rfl (by omega) (t_assign rfl rfl rfl (t_nil' ?_))))))
   exact hK117 (j + 1) _ _ (by omega) ⟨rfl, rfl, rfl, rfl, rfl, rfl, trivial⟩ ⟨((u119.next u135 (fun _ _ h => h.elim)).next u139 (fun i hi h => by omega)), B142, (by omega), (by rw [sumH_at (by omega)]; omega)⟩
  have hj : j = R.hl.length := by omega
  have B143 : Blk w118 bk42 65 [.int .i64 (nth R.lo k), .int .i64 (sumH (k : Int) (R.st.hold.take R.hl.length)), .int .i64 (inL (k : Int) (fun z => decide (z = (nth bs k).to)) R.ld), .int .i64 0] := by
    have e : ([.int .i64 (nth R.lo k), .int .i64 (sumH (k : Int) (R.st.hold.take j)), .int .i64 (inL (k : Int) (fun z => decide (z = (nth bs k).to)) R.ld), .int .i64 0] : List Value) = [.int .i64 (nth R.lo k), .int .i64 (sumH (k : Int) (R.st.hold.take R.hl.length)), .int .i64 (inL (k : Int) (fun z => decide (z = (nth bs k).to)) R.ld), .int .i64 0] := (by rw [hj])
    rw [← e]; exact I120
  refine c_exit (hK115 _ _ (c_seq fun K144 hK144 => (c_seq fun K145 hK145 => (c_region (t_assign rfl rfl rfl (t_nil' (hK145 _ _ (c_block (c_loop (γ := Nat) (fun q => [(2, .pointer (some ⟨bk2, 0, none⟩)), (3, .pointer (some ⟨bk7, 0, none⟩)), (5, .slice ao5 rs.length c5), (6, .int .i64 (k : Int)), (7, .pointer (some ⟨bk42, 0, none⟩)), (9, .int .i64 (q : Int))]) (fun q w => Upd (fun i => i = bk42) w118 w ∧ Blk w bk42 65 [.int .i64 (nth R.lo k), .int .i64 (sumH (k : Int) (R.st.hold.take R.hl.length)), .int .i64 (inL (k : Int) (fun z => decide (z = (nth bs k).to)) R.ld), .int .i64 (asS (k : Int) (nth bs k).to R.ld q)] ∧ (q ≤ 100)) (fun q => 100 - q) 0 ⟨rfl, rfl, rfl, rfl, rfl, rfl, trivial⟩ ⟨Upd.refl _ _, B143, (Nat.zero_le _)⟩ ?_)))))))))
  intro q w147 hW K146 hK146
  obtain ⟨u148, I149, I150⟩ := hW
  have zu148 := u148.size
  have E151 := E123.next u148 (fun i hi h => by omega)
  have hq0 := I150; clear I150
  refine c_seq fun K152 hK152 => (c_seq fun K153 hK153 => (c_region (t_move rfl rfl rfl (t_cmp rfl rfl rfl rfl rfl (t_nil' (hK153 _ _ (c_condp rfl (fun g52 => ?_) (fun g52 => ?_))))))))
  ·
   have hok := inL_rng (b := (k : Int)) (Q := fun p => decide (p = (q : Int))) (fun q hq => (hld2 q hq).2.2 _)
   have has := asS_rng (b := (k : Int)) (to := (nth bs k).to) (fun q hq => (hld2 q hq).2.2 _) hld1 q
   refine c_skip (hK152 _ _ (c_seq fun K154 hK154 => (c_block (c_seq fun K155 hK155 => (c_region (t_move rfl rfl rfl (t_field Try.underlying25 rfl Try.sizeOf22 (0) rfl rfl rfl rfl ?_)))))))
   have B156 := (((B31.kx u110).keep u119 (by omega)).keep u148 (by omega))
   refine t_load Try.isAgg22 rfl rfl rfl (B156.get rfl) (t_move rfl rfl rfl ?_)
   have i157 : k < bs.length := (by omega)
   refine t_index (j := k) Try.underlying22 Try.sizeOf93 rfl rfl rfl rfl ((hbs.keep E151 (fun _ h => h)).addr (by omega)) rfl i157 (t_field Try.underlying93 rfl Try.sizeOf3 (ob + k * 3 + 2) rfl rfl rfl rfl (t_load Try.isAgg3 rfl rfl rfl (((hbs.keep E151 (fun _ h => h)).at_ k (by omega)) 2 _ rfl) (t_cmp rfl rfl rfl rfl rfl (t_nil' (hK155 _ _ (c_condp rfl (fun g62 => ?_) (fun g62 => ?_)))))))
   ·
    refine c_drawnR follows 8 (by kernel_rfl) (p_field Try.underlying65 rfl Try.sizeOf3 (3) rfl rfl rfl rfl (p_load Try.isAgg3 rfl rfl rfl (I149.get rfl) ?_))
    have B161 := (B126.keep u148 (by omega))
    refine p_loadN (vs := [.slice R.ha R.hl.length R.hc, .slice R.sa R.sl.length R.sc, .slice R.la R.ld.length R.lc, .slice R.da R.lo.length R.dc, .slice R.ea R.se.length R.ec]) Try.isAgg47 Try.sizeOf47 rfl rfl rfl (B161.at.sub 0 5) rfl (p_move rfl rfl rfl (p_move rfl rfl rfl (p_call (v := .int .i64 (inL (k : Int) (fun z => decide (z = (q : Int))) R.ld)) own57 rfl rfl rfl rfl (fun _ u162 => (rIn_c bs caps R n (k : Int) (q : Int) _ (hR.ext (E151.nx u162)) hst hn)) (p_ari rfl rfl rfl rfl rfl (by omega) (p_field Try.underlying65 rfl Try.sizeOf3 (3) rfl rfl rfl rfl (p_nil fun w164 u165 => ?_))))))
    have zu165 := u165.size
    have B167 := (I149.kx u165)
    refine t_st (vs := [.int .i64 ((asS (k : Int) (nth bs k).to R.ld q) + (inL (k : Int) (fun z => decide (z = (q : Int))) R.ld))]) Try.sizeOf3 rfl rfl rfl B167 rfl rfl rfl rfl (fun w168 sw168 B170 u169 => ?_)
    have zu169 := u169.size
    have B170 : Blk w168 bk42 65 [.int .i64 (nth R.lo k), .int .i64 (sumH (k : Int) (R.st.hold.take R.hl.length)), .int .i64 (inL (k : Int) (fun z => decide (z = (nth bs k).to)) R.ld), .int .i64 ((asS (k : Int) (nth bs k).to R.ld q) + (inL (k : Int) (fun z => decide (z = (q : Int))) R.ld))] := B170
    have B172 : Blk w168 bk42 65 [.int .i64 (nth R.lo k), .int .i64 (sumH (k : Int) (R.st.hold.take R.hl.length)), .int .i64 (inL (k : Int) (fun z => decide (z = (nth bs k).to)) R.ld), .int .i64 (asS (k : Int) (nth bs k).to R.ld (q + 1))] := by
      have e : ([.int .i64 (nth R.lo k), .int .i64 (sumH (k : Int) (R.st.hold.take R.hl.length)), .int .i64 (inL (k : Int) (fun z => decide (z = (nth bs k).to)) R.ld), .int .i64 ((asS (k : Int) (nth bs k).to R.ld q) + (inL (k : Int) (fun z => decide (z = (q : Int))) R.ld))] : List Value) = [.int .i64 (nth R.lo k), .int .i64 (sumH (k : Int) (R.st.hold.take R.hl.length)), .int .i64 (inL (k : Int) (fun z => decide (z = (nth bs k).to)) R.ld), .int .i64 (asS (k : Int) (nth bs k).to R.ld (q + 1))] := (by rw [asS, if_pos g62])
      rw [← e]; exact B170
    refine t_nil' (hK154 _ _ (c_region (t_move rfl rfl rfl (t_ari rfl rfl rfl rfl rfl (by omega) (t_assign rfl rfl rfl (t_nil' ?_))))))
    exact hK146 (q + 1) _ _ (by omega) ⟨rfl, rfl, rfl, rfl, rfl, rfl, trivial⟩ ⟨((u148.next u165 (fun _ _ h => h.elim)).next u169 (fun i hi h => by omega)), B172, (by omega)⟩
   have B173 : Blk w147 bk42 65 [.int .i64 (nth R.lo k), .int .i64 (sumH (k : Int) (R.st.hold.take R.hl.length)), .int .i64 (inL (k : Int) (fun z => decide (z = (nth bs k).to)) R.ld), .int .i64 (asS (k : Int) (nth bs k).to R.ld (q + 1))] := by
     have e : ([.int .i64 (nth R.lo k), .int .i64 (sumH (k : Int) (R.st.hold.take R.hl.length)), .int .i64 (inL (k : Int) (fun z => decide (z = (nth bs k).to)) R.ld), .int .i64 (asS (k : Int) (nth bs k).to R.ld q)] : List Value) = [.int .i64 (nth R.lo k), .int .i64 (sumH (k : Int) (R.st.hold.take R.hl.length)), .int .i64 (inL (k : Int) (fun z => decide (z = (nth bs k).to)) R.ld), .int .i64 (asS (k : Int) (nth bs k).to R.ld (q + 1))] := (by rw [asS, if_neg (by simpa using g62), Int.add_zero])
     rw [← e]; exact I149
   refine c_skip (hK154 _ _ (c_region (t_move rfl rfl rfl (t_ari rfl rfl rfl rfl rfl (by omega) (t_assign rfl rfl rfl (t_nil' ?_))))))
   exact hK146 (q + 1) _ _ (by omega) ⟨rfl, rfl, rfl, rfl, rfl, rfl, trivial⟩ ⟨u148, B173, (by omega)⟩
  have hq : q = 100 := by omega
  have B174 : Blk w147 bk42 65 [.int .i64 (nth R.lo k), .int .i64 (sumH (k : Int) (R.st.hold.take R.hl.length)), .int .i64 (inL (k : Int) (fun z => decide (z = (nth bs k).to)) R.ld), .int .i64 (asS (k : Int) (nth bs k).to R.ld 100)] := by
    have e : ([.int .i64 (nth R.lo k), .int .i64 (sumH (k : Int) (R.st.hold.take R.hl.length)), .int .i64 (inL (k : Int) (fun z => decide (z = (nth bs k).to)) R.ld), .int .i64 (asS (k : Int) (nth bs k).to R.ld q)] : List Value) = [.int .i64 (nth R.lo k), .int .i64 (sumH (k : Int) (R.st.hold.take R.hl.length)), .int .i64 (inL (k : Int) (fun z => decide (z = (nth bs k).to)) R.ld), .int .i64 (asS (k : Int) (nth bs k).to R.ld 100)] := (by rw [hq])
    rw [← e]; exact I149
  refine c_exit (hK144 _ _ (c_region (t_move rfl rfl rfl (t_loadN (vs := [.int .i64 (nth R.lo k), .int .i64 (sumH (k : Int) (R.st.hold.take R.hl.length)), .int .i64 (inL (k : Int) (fun z => decide (z = (nth bs k).to)) R.ld), .int .i64 (asS (k : Int) (nth bs k).to R.ld 100)]) Try.isAgg65 Try.sizeOf65 rfl rfl rfl (B174.at.sub 0 4) rfl (t_bslice (ps := [(0, .agg #[.int .i64 (nth R.lo k), .int .i64 (sumH (k : Int) (R.st.hold.take R.hl.length)), .int .i64 (inL (k : Int) (fun z => decide (z = (nth bs k).to)) R.ld), .int .i64 (asS (k : Int) (nth bs k).to R.ld 100)])]) (cs := [.int .i64 (nth R.lo k), .int .i64 (sumH (k : Int) (R.st.hold.take R.hl.length)), .int .i64 (inL (k : Int) (fun z => decide (z = (nth bs k).to)) R.ld), .int .i64 (asS (k : Int) (nth bs k).to R.ld 100)]) (e := 65) rfl rfl ⟨rfl, rfl⟩ (fun w => by kernel_rfl) (fun bk175 w176 ebk175 sbk175 B177 u178 => ?_))))))
  have zu178 := u178.size
  have D180 := ((((hcA.keep u110 (fun _ h => h)).keep u119 (fun hb => show ¬ (g5 = bk42) by first | omega | assumption)).keep u148 (fun hb => show ¬ (g5 = bk42) by first | omega | assumption)).keep u178 (fun _ h => h))
  refine t_append (z := .agg #[.int .i64 0, .int .i64 0, .int .i64 0, .int .i64 0]) (bytes := 32) (k := 4) (base := bk13) (⟨(nth R.lo k), (sumH (k : Int) (R.st.hold.take R.hl.length)), (inL (k : Int) (fun z => decide (z = (nth bs k).to)) R.ld), (asS (k : Int) (nth bs k).to R.ld 100)⟩ : Cnt) Try.underlying58 (by kernel_rfl) rfl (by decide) (fun _ => rfl) (by intro x; simp [encCnt, Value.oneCell']) rfl rfl rfl rfl D180 B177 (by omega) (by omega) (by decide) (fun ao181 gb182 cp183 w184 A185 u186 gegb182 lngb182 => ?_)
  have zu186 := u186.size
  have lt_gb182 := A185.lt
  refine t_assign rfl rfl rfl (t_nil' (hK32 _ _ (c_region (t_move rfl rfl rfl (t_ari rfl rfl rfl rfl rfl (by omega) (t_assign rfl rfl rfl (t_nil' ?_)))))))
  exact hK20 (k + 1, ao181, gb182, cp183, (rs ++ [(⟨(nth R.lo k), (sumH (k : Int) (R.st.hold.take R.hl.length)), (inL (k : Int) (fun z => decide (z = (nth bs k).to)) R.ld), (asS (k : Int) (nth bs k).to R.ld 100)⟩ : Cnt)])) _ _ (by show bs.length - (k + 1) < bs.length - k; omega) ⟨rfl, rfl, rfl, rfl, trivial⟩ ⟨(((((u22.next u110 (fun _ _ h => h.elim)).next u119 (fun i hi h => by omega)).next u148 (fun i hi h => by omega)).next u178 (fun _ _ h => h.elim)).next u186 (fun i hi h => by omega)), (by omega), (co_snoc hrs (by simp only [coP, ← inL_eq2, ← asS_all _ _ (fun q hq => (hld2 q hq).2.1), hj, hq, List.take_of_length_le (show R.st.hold.length ≤ R.hl.length from Nat.le_of_eq (List.length_map _))]; rfl)), A185, (by rw [List.length_append, List.length_singleton]; omega), (by show gb182 = bk13 ∨ _ ≤ gb182; omega)⟩
 refine c_exit (hK18 _ _ (c_seq fun K188 hK188 => (c_region (t_move rfl rfl rfl (t_assign rfl rfl rfl (t_nil' (hK188 _ _ (c_ret (f_ret1 (v := .slice ao5 rs.length c5) Try.results24 rfl ?_)))))))))
 exact ⟨ao5, g5, c5, rs, rfl, by rw [hrs, show k = bs.length by omega], hcA.sl (fun _ => rfl), E28⟩

end Go.Proofs.Ytgkkgpenmppjcaa
