/-
  Part 7 of the proof: contracts and plain laws. Conditions: none.
-/
import Derived.Maps.RangeRun
import Derived.Test.YtgoajalaomakpaaGreatIK6
namespace Go.Proofs.YtgoajalaomakpaaGreat
open Go Go.RowKit Go.Proofs.Tryz

theorem or3_lt {a b c : Int} : or3 a b c < 0 ↔ a < 0 ∨ (a = 0 ∧ (b < 0 ∨ (b = 0 ∧ c < 0))) := by unfold or3; split <;> (try split) <;> omega
theorem cmp_lt {a b : Int} : cmpI3 a b < 0 ↔ a < b := by unfold cmpI3; split <;> (try split) <;> omega
theorem cmp_gt {a b : Int} : 0 < cmpI3 a b ↔ b < a := by unfold cmpI3; split <;> (try split) <;> omega
theorem cmp_eq {a b : Int} : cmpI3 a b = 0 ↔ a = b := by unfold cmpI3; split <;> (try split) <;> omega
theorem cmpB_lt {sg : Int} (hsg : sg = 1 ∨ sg = -1) {a b : Bid} : cmpB sg a b < 0 ↔ sg * a.r < sg * b.r ∨ (a.r = b.r ∧ (a.m < b.m ∨ (a.m = b.m ∧ a.p < b.p))) := by
  have h1 := @cmp_lt a.r b.r
  have h2 := @cmp_gt a.r b.r
  have h3 := @cmp_eq a.r b.r
  unfold cmpB
  rw [or3_lt, cmp_lt, cmp_eq, cmp_lt]
  rcases hsg with rfl | rfl <;> omega
theorem cmpB_swo {sg : Int} (hsg : sg = 1 ∨ sg = -1) : Go.Sort.SWO (ltOf (cmpB sg)) where
  irrefl x := by unfold ltOf; rw [decide_eq_false_iff_not, cmpB_lt hsg]; omega
  trans x y z h1 h2 := by
    unfold ltOf at *
    rw [decide_eq_true_eq, cmpB_lt hsg] at *
    rcases hsg with rfl | rfl <;> omega
  ntrans x y z h1 h2 := by
    unfold ltOf at *
    rw [decide_eq_false_iff_not, cmpB_lt hsg] at *
    rcases hsg with rfl | rfl <;> omega
theorem own95 : Own Tryz.prog 95 := ⟨Tryz.f95, func95, by kernel_rfl, by kernel_rfl⟩
theorem cloneB_c (l : List Bid) (al : Option Addr) (bl ol cl : Nat) (w0 : World) (hl : Sl encBid 4 w0 al bl ol l) (hll : l.length ≤ 1000000) (hpos : 0 < w0.heap.size) :
    CallsV Tryz.prog 93 [.slice al l.length cl] w0 (fun v w' => (∃ ao g cp, v = .slice ao (List.length l) cp ∧ Acc encBid 4 30 w0.heap.size w' ao g cp l) ∧ Ext w0 w') := by
 refine f_n func93 ?_
 refine go ?_
 refine t_nilS underlying22 rfl rfl rfl rfl ?_
 refine go ?_
 refine q_b (fun g4 => ?_) fun g4 => ?_
 ·
  refine go ?_
  refine f_1 results93 ?_
  have hl0 : l = [] := List.eq_nil_of_length_eq_zero (by
    rcases Nat.eq_zero_or_pos l.length with h | h
    · exact h
    · rw [hl.addr h] at g4; cases g4)
  exact ⟨⟨none, 0, 0, by rw [hl0]; rfl, by rw [hl0]; exact Acc.nil _ _ _ _ _ hpos (by omega)⟩, u_d⟩
 refine go ?_
 refine x_l fun bk6 w7 ebk6 sbk6 B8 u9 => ?_
 refine go ?_
 refine t_copyE (enc := encBid) (z := .agg #[.int .i64 0, .int .i64 0, .int .i64 0, .int .i64 0]) (bytes := 32) (k := 4) (ys := l) underlying22 (by kernel_rfl) rfl (by decide) (fun _ => rfl) (by intro x; simp [encBid, Value.oneCell']) rfl rfl rfl rfl B8 (hl.keep ((Upd.refl (fun _ => False) w0).nx u9) (fun _ h => h)) (by omega) (by decide) (fun ao1 g1 c1 w11 A13 u12 ge1 => ?_)
 have zu12 := u12.size
 refine go ?_
 refine f_1 results93 ?_
 obtain ⟨g9, ha9⟩ := Acc.lower (base' := w0.heap.size) A13 (by omega) hpos
 exact ⟨⟨ao1, g9, c1, rfl, ha9⟩, u_d⟩

theorem indexWB_c {α : Type} [Inhabited α] (enc : α → List Value) (hk : ∀ x, (enc x).length = 4) (p : α → Bool) (fv : FuncId) (caps : List Value) (xs : List α) (ao : Option Addr) (b o cap : Nat) (w0 : World) (ho : Own Tryz.prog fv) (hp : ∀ x ∈ xs, ∀ w, Ext w0 w → CallsV Tryz.prog fv ([.agg (enc x).toArray] ++ caps) w fun v w' => v = .bool (p x) ∧ Ext w w') (hs : Sl enc 4 w0 ao b o xs) (hl : xs.length ≤ 1000000) :
    CallsV Tryz.prog 88 [.slice ao xs.length cap, .func (.func fv) #[] (caps).toArray] w0 (fun v w' => (∃ n : Int, v = .int .i64 n ∧ ((n = -1 ∧ ∀ j, j < xs.length → p (nth xs j) = false) ∨ ∃ k : Nat, n = (k : Int) ∧ k < xs.length ∧ p (nth xs k) = true ∧ ∀ j, j < k → p (nth xs j) = false)) ∧ Ext w0 w') := by
 refine f_n func88 ?_
 refine go ?_
 refine x_l1 (fun _ => False) [0, 1, 7] (fun (k : Nat) => [(8, .int .i64 (k : Int))]) (fun k w => (k ≤ xs.length) ∧ (∀ j, j < k → p (nth xs j) = false)) (fun k => xs.length - k) 0 ⟨Nat.zero_le _, (fun j h => absurd h (Nat.not_lt_zero j))⟩ ?_
 rintro k w5 ⟨hle, hno⟩ u6 zu6 K4 hK4
 have E7 := Sc.mk ((Upd.refl (fun _ => False) w0).nx u6)
 refine go ?_
 refine q_p (fun g9 => ?_) fun g9 => ?_
 ·
  refine go ?_
  refine g_i k (hs.keep E7.u (fun _ h => h)) (fun _ => ?_)
  refine t_loadN (vs := enc (nth xs k)) isAgg30 sizeOf30 rfl rfl rfl ((hs.keep E7.u (fun _ h => h)).at_ k (by omega)) (hk _) (t_call (fs := []) (cs := caps) ho rfl rfl rfl rfl (hp (nth xs k) (nth_mem (by omega)) _ E7.u) (fun v14 w15 r17 => ?_))
  obtain ⟨rfl, u16⟩ := r17
  have zu16 := u16.size
  refine go ?_
  refine q_b (fun g16 => ?_) fun g16 => ?_
  ·
   refine go ?_
   refine f_1 results88 ?_
   exact ⟨⟨_, rfl, .inr ⟨k, rfl, by omega, g16, hno⟩⟩, u_d⟩
  refine go ?_
  exact hK4 (k + 1) ⟨(by omega), (fun j h => (Nat.lt_succ_iff_lt_or_eq.1 h).elim (hno j) (fun e => e ▸ g16))⟩
 refine go ?_
 refine f_1 results88 ?_
 exact ⟨⟨_, rfl, .inl ⟨rfl, fun j h => hno j (by omega)⟩⟩, u_d⟩

theorem deleteB_c (p : Bid → Bool) (fv : FuncId) (caps : List Value) (l : List Bid) (ao : Option Addr) (gb cap base : Nat) (w0 : World) (ho : Own Tryz.prog fv) (hp : ∀ x ∈ l, ∀ w, Upd (fun i => i = gb ∧ base ≤ i) w0 w → CallsV Tryz.prog fv ([.agg (encBid x).toArray] ++ caps) w fun v w' => v = .bool (p x) ∧ Ext w w') (ha : Acc encBid 4 30 base w0 ao gb cap l) (hl : l.length ≤ 1000000) (_hb : base ≤ w0.heap.size) :
    CallsV Tryz.prog 92 [.slice ao l.length cap, .func (.func fv) #[] (caps).toArray] w0 (fun v w' => (v = .slice ao (List.length (l.filter fun x => !p x)) cap ∧ Acc encBid 4 30 base w' ao gb cap (l.filter fun x => !p x)) ∧ Upd (fun i => i = gb ∧ base ≤ i) w0 w') := by
 have E0 := Sc.mk (Upd.refl (fun i => (i = gb ∧ base ≤ i)) w0)
 refine f_n func92 ?_
 refine go ?_
 refine x_c func88 rfl rfl (indexWB_c encBid (fun _ => rfl) p fv caps l ao gb 0 cap _ ho (fun x hx w u => hp x hx w (E0.u.nx u)) (ha.sl (fun _ => rfl)) hl) ?_
 rintro _ w4 ⟨⟨n, rfl, hn⟩, u5⟩ zu5
 refine go ?_
 refine q_p (fun g12 => ?_) fun g12 => ?_
 ·
  refine go ?_
  refine f_1 results92 ?_
  have D11 := (ha.keep u5 (fun _ h => h))
  have hfl : (l.filter fun x => !p x) = l := by
    have hn0 := fun j h => (hn.resolve_right (fun ⟨k, e, _⟩ => by omega)).2 j h
    rw [List.filter_eq_self]
    intro x hx
    obtain ⟨i, hi, rfl⟩ := List.mem_iff_getElem.1 hx
    have := hn0 i hi
    rw [nth_eq hi] at this
    simp [this]
  exact ⟨⟨by rw [hfl], by rw [hfl]; exact D11⟩, u_d⟩
 obtain ⟨k0, rfl, hk0, hpk, hno⟩ := hn.resolve_left (fun h => g12 h.1)
 have hbg := ha.ge (by omega)
 refine go ?_
 have D14 := (ha.keep u5 (fun _ h => h))
 refine x_l1 (fun i => (i = gb ∧ base ≤ i)) [0, 1] (fun (j : Nat) => [(5, .int .i64 ((kp p l j).length : Int)), (6, .int .i64 (j : Int))]) (fun j w => (j ≤ l.length) ∧ (Acc encBid 4 30 base w ao gb cap (dl p l j))) (fun j => l.length - j) (k0 + 1) ⟨(by omega), (by rw [dl_init hk0 hpk hno]; exact D14)⟩ ?_ (h0 := by exact ⟨(congrArg (fun z => some (Value.int .i64 z)) (by rw [kp_init hk0 hpk hno, List.length_take, Nat.min_eq_left (by omega)])), rfl, rfl, rfl, trivial⟩)
 rintro j w16 ⟨hj, hac⟩ u17 zu17 K15 hK15
 have lt_gb := hac.lt
 have hdl := dl_len (p := p) hj
 have hkp := kp_le (p := p) hj
 have hcap := hac.cap_le
 refine go ?_
 refine q_p (fun g19 => ?_) fun g19 => ?_
 ·
  have hjl : j < l.length := by omega
  refine go ?_
  refine g_i j (hac.sl (fun _ => rfl)) (fun _ => ?_)
  refine t_loadN (vs := [.int .i64 ((nth (dl p l j) j).p), .int .i64 ((nth (dl p l j) j).n), .int .i64 ((nth (dl p l j) j).r), .int .i64 ((nth (dl p l j) j).m)]) isAgg30 sizeOf30 rfl rfl rfl (((hac.sl (fun _ => rfl)).at_ j (by omega)).sub 0 4) rfl (t_same 25 (v := .agg #[.int .i64 ((nth l j).p), .int .i64 ((nth l j).n), .int .i64 ((nth l j).r), .int .i64 ((nth l j).m)]) rfl (by rw [dl_nth hjl]) ?_)
  refine x_n fun bk24 w25 ebk24 sbk24 B26 u27 => ?_
  refine x_s fun w29 sw29 B31 u30 => ?_
  refine go ?_
  refine t_call (fs := []) (cs := caps) ho rfl rfl rfl rfl (hp (nth l j) (nth_mem hjl) _ ((((E0.u.nx u5).next u17 (fun i hi h => by omega)).nx u27).next u30 (fun i hi h => by omega))) (fun v34 w35 r37 => ?_)
  obtain ⟨rfl, u36⟩ := r37
  have zu36 := u36.size
  refine go ?_
  refine q_b (fun g29 => ?_) fun g29 => ?_
  ·
   have hq : p (nth l j) = false := by simpa using g29
   refine go ?_
   have D40 := (((hac.keep u27 (fun _ h => h)).keep u30 (fun _hb => show ¬ (gb = bk24) by first | omega | assumption)).keep u36 (fun _ h => h))
   refine g_i ((kp p l j).length) (D40.sl (fun _ => rfl)) (fun _ => ?_)
   refine t_storeA (vs := [.int .i64 ((nth l j).p), .int .i64 ((nth l j).n), .int .i64 ((nth l j).r), .int .i64 ((nth l j).m)]) (j := (kp p l j).length) (o' := 0) (k := 4) (nth l j) (fun _ => rfl) sizeOf30 rfl rfl (by omega) rfl D40 (by first | omega | (simp only [List.length_set, eRuns_len]; omega)) rfl rfl (by decide) (by simp [Value.oneCell']) rfl (fun w42 R44 u43 => ?_)
   have zu43 := u43.size
   refine go ?_
   exact hK15 (j + 1) ⟨(by omega), (by rw [dl_yes hjl hq]; exact R44)⟩ (hs := by exact ⟨(congrArg (fun z => some (Value.int .i64 z)) (by first | (rw [kp_yes hjl hq]; simp) | rw [kp_no hjl hq])), rfl, rfl, rfl, trivial⟩)
  have hq : p (nth l j) = true := by simpa using g29
  refine go ?_
  have D46 := (((hac.keep u27 (fun _ h => h)).keep u30 (fun _hb => show ¬ (gb = bk24) by first | omega | assumption)).keep u36 (fun _ h => h))
  exact hK15 (j + 1) ⟨(by omega), (by rw [dl_no hjl hq]; exact D46)⟩ (hs := by exact ⟨(congrArg (fun z => some (Value.int .i64 z)) (by first | (rw [kp_yes hjl hq]; simp) | rw [kp_no hjl hq])), rfl, rfl, rfl, trivial⟩)
 refine go ?_
 refine t_sliceFrom ((kp p l j).length) underlying22 sizeOf30 rfl rfl rfl rfl rfl (by omega) (by omega) (t_clear (enc := encBid) (k := 4) (xs := (dl p l j)) underlying22 rfl zeroValue30 rfl (by decide) (fun _ => rfl) rfl rfl (by omega) (by omega) hac (fun w48 sw48 A50 u49 => ?_))
 have lt_gb := A50.lt
 refine go ?_
 refine t_sliceTo ((kp p l j).length) underlying22 sizeOf30 rfl rfl rfl rfl rfl (by omega) ?_
 refine go ?_
 refine f_1 results92 ?_
 obtain rfl : j = l.length := by omega
 rw [dl_end] at A50
 exact ⟨⟨by rw [subAddr0]; simp [kp], A50⟩, u_d⟩

theorem queue_c (sg : Int) (l : List Bid) (al : Option Addr) (bl ol cl : Nat) (p : Int) (w0 : World) (hsg : sg = 1 ∨ sg = -1) (hl : Sl encBid 4 w0 al bl ol l) (hll : l.length ≤ 1000000) (hok : ∀ x ∈ l, okBid x = true) (hp : 0 ≤ p ∧ p ≤ 1000000) (hpos : 0 < w0.heap.size) :
    CallsV Tryz.prog 48 [.agg #[.slice al l.length cl, .int .i64 sg], .int .i64 p] w0 (fun v w' => (∃ ys ao g cp, v = .slice ao (List.length ys) cp ∧ ys.Perm (l.filter fun x => trd sg x p) ∧ Asc (cmpB sg) ys ∧ Acc encBid 4 30 w0.heap.size w' ao g cp ys) ∧ Ext w0 w') := by
 refine f_n func48 ?_
 refine go ?_
 refine x_b fun bk2 w3 ebk2 sbk2 B4 u5 => ?_
 refine x_b fun bk7 w8 ebk7 sbk7 B9 u10 => ?_
 refine go ?_
 refine x_c func93 rfl rfl (cloneB_c l al bl ol cl _ (hl.keep (((Upd.refl (fun _ => False) w0).nx u5).nx u10) (fun _ h => h)) (by have := hll; omega) (by omega)) ?_
 rintro _ w15 ⟨⟨aoQ13, gQ13, cQ13, rfl, haQ13⟩, u16⟩ zu16
 have lt_gQ13 := haQ13.lt
 refine t_mkfunc (vs := []) (us := [.pointer (some ⟨bk2, 0, none⟩), .pointer (some ⟨bk7, 0, none⟩)]) rfl rfl rfl rfl ?_
 have B19 := ((B4.kx u10).kx u16)
 have B20 := (B9.kx u16)
 have hne1 := B19.lt
 have hne2 := B20.lt
 refine x_c func92 rfl rfl (deleteB_c (fun x => !trd sg x p) 94 [.pointer (some ⟨bk2, 0, none⟩), .pointer (some ⟨bk7, 0, none⟩)] l aoQ13 gQ13 cQ13 w8.heap.size _ own94 (fun x hx w u => queue1_c sg al l.length cl p x bk2 bk7 w hsg (okBid_ok (hok x hx)).2.2.1 hp (B19.keep u (by omega)) (B20.keep u (by omega))) haQ13 hll (by omega)) ?_
 rintro _ w23 ⟨⟨rfl, haQ21⟩, u24⟩ zu24
 have lt_gQ13 := haQ21.lt
 refine go ?_
 refine t_mkfunc (vs := []) (us := [.pointer (some ⟨bk2, 0, none⟩)]) rfl rfl rfl rfl ?_
 have B28 := (B19.keep u24 (by omega))
 have hne3 := B28.lt
 have hfl6 := List.length_filter_le (fun x => !((fun x => !trd sg x p) x)) l
 refine t_call own95 rfl rfl rfl rfl (sort_cv sortB 4 (by decide) isAgg30 sizeOf30 encBid (fun _ => rfl) (by intro x; simp [encBid, Value.oneCell']) (cmpB sg) (cmpB_swo hsg) 96 own96 [.pointer (some ⟨bk2, 0, none⟩)] 30 w8.heap.size aoQ13 gQ13 cQ13 (l.filter fun x => !((fun x => !trd sg x p) x)) _ (fun h0 W u x y => queue2_c sg al l.length cl x y bk2 W hsg (B28.keep u (by have := haQ21.ge h0; omega))) haQ21 (by omega)) (fun v29 w30 r32 => ?_)
 obtain ⟨ys, hperm, hasc, hays, u31, rfl⟩ := r32
 have zu31 := u31.size
 have hyl := hperm.length_eq
 have lt_gQ13 := hays.lt
 refine go ?_
 refine f_1 results48 ?_
 obtain ⟨g9, ha9⟩ := Acc.lower (base' := w0.heap.size) hays (by omega) hpos
 exact ⟨⟨ys, _, g9, _, by rw [hyl], by simpa using hperm, hasc, ha9⟩, u_d⟩

end Go.Proofs.YtgoajalaomakpaaGreat
namespace Go.Proofs.YtgoajalaomakpaaGreat
open Go Go.RowKit Go.Proofs.Tryz
theorem growB_c (n : Nat) (w0 : World) (hn : n ≤ 100000) (hpos : 0 < w0.heap.size) :
    CallsV Tryz.prog 87 [.slice none 0 0, .int .i64 (n : Int)] w0 (fun v w' => (∃ ao g cp, v = .slice ao 0 cp ∧ Acc encBid 4 30 w0.heap.size w' ao g cp []) ∧ Ext w0 w') := by
 refine f_n func87 ?_
 refine go ?_
 refine t_cap underlying22 rfl rfl rfl rfl ?_
 refine go ?_
 refine q_p (fun g16 => ?_) fun g16 => ?_
 ·
  refine go ?_
  refine t_cap underlying22 rfl rfl rfl rfl (t_sliceTo (0) underlying22 sizeOf30 rfl rfl rfl rfl (by omega) (by omega) (t_same 20 (v := .slice none 0 0) rfl (by rfl) ?_))
  refine go ?_
  refine t_appZN (z := .agg #[.int .i64 0, .int .i64 0, .int .i64 0, .int .i64 0]) (bytes := 32) (k := 4) n underlying22 underlying3 (by kernel_rfl) rfl (by decide) rfl rfl rfl rfl (by omega) (by omega) (by omega) (by decide) (fun cN w7 zs hcN hcM hzl B9 u8 => ?_)
  have zu8 := u8.size
  refine go ?_
  refine t_sliceTo (0) underlying22 sizeOf30 rfl rfl rfl rfl (by omega) (by omega) (t_same 25 (v := .slice (some ⟨w0.heap.size, 0, none⟩) 0 cN) rfl (by rw [subAddr_some (by omega)]) ?_)
  refine go ?_
  refine f_1 results87 ?_
  exact ⟨⟨_, _, cN, rfl, Acc.ofRaw (cs := zs) B9 (by omega) (Nat.zero_le _) hcM hzl (by rfl)⟩, u_d⟩
 refine go ?_
 refine f_1 results87 ?_
 exact ⟨⟨none, 0, 0, rfl, Acc.nil _ _ _ _ _ hpos (by omega)⟩, u_d⟩

theorem concatB_c (L : List (Hl Bid)) (ns : List Bid) (al : Option Addr) (bl ol cl : Nat) (w0 : World) (hL : Sl encHl 1 w0 al bl ol L) (hLm : ∀ h ∈ L, Sl encBid 4 w0 h.ao h.g h.o h.xs ∧ h.xs.length ≤ 1000) (hLl : L.length ≤ 2) (he : L.flatMap Hl.xs = ns) (hpos : 0 < w0.heap.size) :
    CallsV Tryz.prog 40 [.slice al L.length cl] w0 (fun v w' => (∃ ao g cp, v = .slice ao (List.length ns) cp ∧ Acc encBid 4 30 w0.heap.size w' ao g cp ns) ∧ Ext w0 w') := by
 refine f_n func40 ?_
 refine go ?_
 refine x_l1 (fun _ => False) [0, 9, 10] (fun (k : Nat) => [(3, .int .i64 (((L.take k).flatMap Hl.xs).length : Int)), (11, .int .i64 (k : Int))]) (fun k w => (k ≤ L.length) ∧ (((L.take k).flatMap Hl.xs).length ≤ 1000 * k)) (fun k => L.length - k) 0 ⟨(Nat.zero_le _), (Nat.le_refl _)⟩ ?_ (h0 := by exact ⟨(by first | exact congrArg (fun z => some (Value.int .i64 z)) (by rw [hst9, List.length_append]; omega) | rfl), rfl, rfl, rfl, rfl, trivial⟩)
 rintro k w6 ⟨hk, hsum⟩ u7 zu7 K5 hK5
 have E8 := Sc.mk ((Upd.refl (fun _ => False) w0).nx u7)
 refine go ?_
 refine q_p (fun g12 => ?_) fun g12 => ?_
 ·
  have hst9 : ((L.take (k + 1)).flatMap Hl.xs) = ((L.take k).flatMap Hl.xs) ++ (nth L k).xs := by rw [take_nth (show k < L.length by omega), List.flatMap_append]; simp
  have hx6 := (hLm _ (nth_mem (show k < L.length by omega))).2
  refine go ?_
  refine g_i k (hL.keep E8.u (fun _ h => h)) (fun _ => ?_)
  refine go ?_
  exact hK5 (k + 1) ⟨(by omega), (by rw [hst9, List.length_append]; have := (hLm _ (nth_mem (show k < L.length by omega))).2; omega)⟩ (hs := by exact ⟨(by first | exact congrArg (fun z => some (Value.int .i64 z)) (by rw [hst9, List.length_append]; omega) | rfl), rfl, rfl, rfl, rfl, trivial⟩)
 have hke : k = L.length := by omega
 have hsz : ((L.take k).flatMap Hl.xs) = ns := by rw [hke, List.take_length]; exact he
 refine go ?_
 refine x_c func87 rfl rfl (growB_c ((L.take k).flatMap Hl.xs).length _ (by omega) (by omega)) ?_
 rintro _ w18 ⟨⟨aG, gG, cG, rfl, haG⟩, u19⟩ zu19
 obtain ⟨gL, haL⟩ := Acc.lower (base' := w0.heap.size) haG (by omega) hpos
 have lt_gL := haL.lt
 refine go ?_
 refine x_l4 (fun i => w0.heap.size ≤ i) [25, 26] (fun (j : Nat) (ao : Option Addr) (gq : Nat) (cg : Nat) => [(6, .slice ao (((L.take j).flatMap Hl.xs).length) cg), (27, .int .i64 (j : Int))]) (fun j ao gq cg w => (j ≤ L.length) ∧ (Acc encBid 4 30 w0.heap.size w ao gq cg ((L.take j).flatMap Hl.xs)) ∧ (((L.take j).flatMap Hl.xs).length ≤ 1000 * j)) (fun j ao gq cg => L.length - j) 0 aG gL cG ⟨(Nat.zero_le _), haL, (Nat.le_refl _)⟩ ?_ (h0 := by exact ⟨(by first | (rw [hst9]; rfl) | rfl), rfl, rfl, rfl, trivial⟩)
 rintro j ao gq cg w25 ⟨hj, hgr, hsj⟩ u26 zu26 K24 hK24
 have E27 := Sc.mk ((E8.u.nx u19).next u26 (fun i hi (h : w0.heap.size ≤ i) => show False by first | omega | assumption))
 have lt_gq := hgr.lt
 refine go ?_
 refine q_p (fun g28 => ?_) fun g28 => ?_
 ·
  have hst9 : ((L.take (j + 1)).flatMap Hl.xs) = ((L.take j).flatMap Hl.xs) ++ (nth L j).xs := by rw [take_nth (show j < L.length by omega), List.flatMap_append]; simp
  have hx6 := (hLm _ (nth_mem (show j < L.length by omega))).2
  refine go ?_
  refine g_i j (hL.keep E27.u (fun _ h => h)) (fun _ => ?_)
  refine go ?_
  refine t_appendAll (enc := encBid) (z := .agg #[.int .i64 0, .int .i64 0, .int .i64 0, .int .i64 0]) (bytes := 32) (k := 4) (base := w0.heap.size) (xs := ((L.take j).flatMap Hl.xs)) (ys := (nth L j).xs) underlying22 (by kernel_rfl) rfl (by decide) (fun _ => rfl) (by intro x; simp [encBid, Value.oneCell']) rfl rfl rfl rfl hgr ((hLm (nth L j) (nth_mem (by omega))).1.keep E27.u (fun _ h => h)) (by omega) (by omega) (by omega) (by decide) (fun ao33 gb34 cp35 w36 A37 u38 gegb34 lngb34 => ?_)
  have zu38 := u38.size
  have lt_gb34 := A37.lt
  refine go ?_
  exact hK24 (j + 1) ao33 gb34 cp35 ⟨(by omega), (by rw [hst9]; exact A37), (by rw [hst9, List.length_append]; have := (hLm _ (nth_mem (show j < L.length by omega))).2; omega)⟩ (hs := by exact ⟨(by first | (rw [hst9]; rfl) | rfl), rfl, rfl, rfl, trivial⟩) (hu := (u26.next u38 (fun i hi (h : (i = gq ∧ w0.heap.size ≤ i)) => show w0.heap.size ≤ i by first | omega | assumption)))
 have hje : ((L.take j).flatMap Hl.xs) = ns := by rw [show j = L.length by omega, List.take_length]; exact he
 rw [hje] at hgr
 refine c_same 6 (v := .slice ao ns.length cg) rfl (by rw [hje]) ?_
 refine go ?_
 refine f_1 results40 ?_
 exact ⟨⟨ao, gq, cg, rfl, hgr⟩, u_d⟩

theorem growI_c (n : Nat) (w0 : World) (hn : n ≤ 100000) (hpos : 0 < w0.heap.size) :
    CallsV Tryz.prog 102 [.slice none 0 0, .int .i64 (n : Int)] w0 (fun v w' => (∃ ao g cp, v = .slice ao 0 cp ∧ Acc encI 1 3 w0.heap.size w' ao g cp []) ∧ Ext w0 w') := by
 refine f_n func102 ?_
 refine go ?_
 refine t_cap underlying37 rfl rfl rfl rfl ?_
 refine go ?_
 refine q_p (fun g16 => ?_) fun g16 => ?_
 ·
  refine go ?_
  refine t_cap underlying37 rfl rfl rfl rfl (t_sliceTo (0) underlying37 sizeOf3 rfl rfl rfl rfl (by omega) (by omega) (t_same 20 (v := .slice none 0 0) rfl (by rfl) ?_))
  refine go ?_
  refine t_appZN (z := .int .i64 0) (bytes := 8) (k := 1) n underlying37 underlying3 (by kernel_rfl) rfl (by decide) rfl rfl rfl rfl (by omega) (by omega) (by omega) (by decide) (fun cN w7 zs hcN hcM hzl B9 u8 => ?_)
  have zu8 := u8.size
  refine go ?_
  refine t_sliceTo (0) underlying37 sizeOf3 rfl rfl rfl rfl (by omega) (by omega) (t_same 25 (v := .slice (some ⟨w0.heap.size, 0, none⟩) 0 cN) rfl (by rw [subAddr_some (by omega)]) ?_)
  refine go ?_
  refine f_1 results102 ?_
  exact ⟨⟨_, _, cN, rfl, Acc.ofRaw (cs := zs) B9 (by omega) (Nat.zero_le _) hcM hzl (by rfl)⟩, u_d⟩
 refine go ?_
 refine f_1 results102 ?_
 exact ⟨⟨none, 0, 0, rfl, Acc.nil _ _ _ _ _ hpos (by omega)⟩, u_d⟩

theorem concatI_c (L : List (Hl Int)) (ns : List Int) (al : Option Addr) (bl ol cl : Nat) (w0 : World) (hL : Sl encHl 1 w0 al bl ol L) (hLm : ∀ h ∈ L, Sl encI 1 w0 h.ao h.g h.o h.xs ∧ h.xs.length ≤ 1000) (hLl : L.length ≤ 2) (he : L.flatMap Hl.xs = ns) (hpos : 0 < w0.heap.size) :
    CallsV Tryz.prog 64 [.slice al L.length cl] w0 (fun v w' => (∃ ao g cp, v = .slice ao (List.length ns) cp ∧ Acc encI 1 3 w0.heap.size w' ao g cp ns) ∧ Ext w0 w') := by
 refine f_n func64 ?_
 refine go ?_
 refine x_l1 (fun _ => False) [0, 9, 10] (fun (k : Nat) => [(3, .int .i64 (((L.take k).flatMap Hl.xs).length : Int)), (11, .int .i64 (k : Int))]) (fun k w => (k ≤ L.length) ∧ (((L.take k).flatMap Hl.xs).length ≤ 1000 * k)) (fun k => L.length - k) 0 ⟨(Nat.zero_le _), (Nat.le_refl _)⟩ ?_ (h0 := by exact ⟨(by first | exact congrArg (fun z => some (Value.int .i64 z)) (by rw [hst9, List.length_append]; omega) | rfl), rfl, rfl, rfl, rfl, trivial⟩)
 rintro k w6 ⟨hk, hsum⟩ u7 zu7 K5 hK5
 have E8 := Sc.mk ((Upd.refl (fun _ => False) w0).nx u7)
 refine go ?_
 refine q_p (fun g12 => ?_) fun g12 => ?_
 ·
  have hst9 : ((L.take (k + 1)).flatMap Hl.xs) = ((L.take k).flatMap Hl.xs) ++ (nth L k).xs := by rw [take_nth (show k < L.length by omega), List.flatMap_append]; simp
  have hx6 := (hLm _ (nth_mem (show k < L.length by omega))).2
  refine go ?_
  refine g_i k (hL.keep E8.u (fun _ h => h)) (fun _ => ?_)
  refine go ?_
  exact hK5 (k + 1) ⟨(by omega), (by rw [hst9, List.length_append]; have := (hLm _ (nth_mem (show k < L.length by omega))).2; omega)⟩ (hs := by exact ⟨(by first | exact congrArg (fun z => some (Value.int .i64 z)) (by rw [hst9, List.length_append]; omega) | rfl), rfl, rfl, rfl, rfl, trivial⟩)
 have hke : k = L.length := by omega
 have hsz : ((L.take k).flatMap Hl.xs) = ns := by rw [hke, List.take_length]; exact he
 refine go ?_
 refine x_c func102 rfl rfl (growI_c ((L.take k).flatMap Hl.xs).length _ (by omega) (by omega)) ?_
 rintro _ w18 ⟨⟨aG, gG, cG, rfl, haG⟩, u19⟩ zu19
 obtain ⟨gL, haL⟩ := Acc.lower (base' := w0.heap.size) haG (by omega) hpos
 have lt_gL := haL.lt
 refine go ?_
 refine x_l4 (fun i => w0.heap.size ≤ i) [25, 26] (fun (j : Nat) (ao : Option Addr) (gq : Nat) (cg : Nat) => [(6, .slice ao (((L.take j).flatMap Hl.xs).length) cg), (27, .int .i64 (j : Int))]) (fun j ao gq cg w => (j ≤ L.length) ∧ (Acc encI 1 3 w0.heap.size w ao gq cg ((L.take j).flatMap Hl.xs)) ∧ (((L.take j).flatMap Hl.xs).length ≤ 1000 * j)) (fun j ao gq cg => L.length - j) 0 aG gL cG ⟨(Nat.zero_le _), haL, (Nat.le_refl _)⟩ ?_ (h0 := by exact ⟨(by first | (rw [hst9]; rfl) | rfl), rfl, rfl, rfl, trivial⟩)
 rintro j ao gq cg w25 ⟨hj, hgr, hsj⟩ u26 zu26 K24 hK24
 have E27 := Sc.mk ((E8.u.nx u19).next u26 (fun i hi (h : w0.heap.size ≤ i) => show False by first | omega | assumption))
 have lt_gq := hgr.lt
 refine go ?_
 refine q_p (fun g28 => ?_) fun g28 => ?_
 ·
  have hst9 : ((L.take (j + 1)).flatMap Hl.xs) = ((L.take j).flatMap Hl.xs) ++ (nth L j).xs := by rw [take_nth (show j < L.length by omega), List.flatMap_append]; simp
  have hx6 := (hLm _ (nth_mem (show j < L.length by omega))).2
  refine go ?_
  refine g_i j (hL.keep E27.u (fun _ h => h)) (fun _ => ?_)
  refine go ?_
  refine t_appendAll (enc := encI) (z := .int .i64 0) (bytes := 8) (k := 1) (base := w0.heap.size) (xs := ((L.take j).flatMap Hl.xs)) (ys := (nth L j).xs) underlying37 (by kernel_rfl) rfl (by decide) (fun _ => rfl) (by intro x; simp [encI, Value.oneCell']) rfl rfl rfl rfl hgr ((hLm (nth L j) (nth_mem (by omega))).1.keep E27.u (fun _ h => h)) (by omega) (by omega) (by omega) (by decide) (fun ao33 gb34 cp35 w36 A37 u38 gegb34 lngb34 => ?_)
  have zu38 := u38.size
  have lt_gb34 := A37.lt
  refine go ?_
  exact hK24 (j + 1) ao33 gb34 cp35 ⟨(by omega), (by rw [hst9]; exact A37), (by rw [hst9, List.length_append]; have := (hLm _ (nth_mem (show j < L.length by omega))).2; omega)⟩ (hs := by exact ⟨(by first | (rw [hst9]; rfl) | rfl), rfl, rfl, rfl, trivial⟩) (hu := (u26.next u38 (fun i hi (h : (i = gq ∧ w0.heap.size ≤ i)) => show w0.heap.size ≤ i by first | omega | assumption)))
 have hje : ((L.take j).flatMap Hl.xs) = ns := by rw [show j = L.length by omega, List.take_length]; exact he
 rw [hje] at hgr
 refine c_same 6 (v := .slice ao ns.length cg) rfl (by rw [hje]) ?_
 refine go ?_
 refine f_1 results64 ?_
 exact ⟨⟨ao, gq, cg, rfl, hgr⟩, u_d⟩

end Go.Proofs.YtgoajalaomakpaaGreat
namespace Go.Proofs.YtgoajalaomakpaaGreat
open Go Go.RowKit Go.Proofs.Tryz

/-- A queue is an array of orders and the number of the first one that is left. -/
def takeB (x : Bid) (t : Int) : Bid := ⟨x.p, x.n - t, x.r, x.m⟩
def takeZ (zs : List Bid) (i : Nat) (t : Int) : List Bid := zs.set i (takeB (nth zs i) t)
def takeI (zs : List Bid) (i : Nat) (t : Int) : Nat := if (nth zs i).n - t = 0 then i + 1 else i
theorem takeZ_len (zs : List Bid) (i : Nat) (t : Int) : (takeZ zs i t).length = zs.length := by simp [takeZ]
theorem takeZ_nth {zs : List Bid} {i : Nat} {t : Int} (h : i < zs.length) : nth (takeZ zs i t) i = takeB (nth zs i) t := by simp [takeZ, nth, List.getD_eq_getElem?_getD, h]
theorem Wr.slD {α : Type} [Inhabited α] {enc : α → List Value} {k : Nat} {e : TypeId} {w : World} {g : Nat} {xs : List α} {a : Option Addr} {i : Nat} (h : Wr enc k e w g xs) (ha : i < xs.length → a = some ⟨g, i * k, none⟩) : Sl enc k w a g (i * k) (xs.drop i) := by
  by_cases hi : i < xs.length
  · have h1 := (h.sl (ao := some ⟨g, 0, none⟩) (fun _ => rfl)).sub (xs.length + 1) i (xs.length - i) (by omega)
    rw [subAddr_some (by omega), List.take_of_length_le (by simp), Nat.zero_add] at h1
    rw [ha hi]; exact h1
  · rw [List.drop_eq_nil_of_le (by omega)]; exact Sl.nil _ _ _ _ _ _
theorem take_sub {a : Option Addr} {g i cp n : Nat} (_hi : i < n) (ha : a = some ⟨g, i * 4, none⟩) (hc : n ≤ cp) (h : i + 1 < n) : subAddr a (cp - i) 1 4 = some ⟨g, (i + 1) * 4, none⟩ := by
  rw [ha, subAddr_some (by omega), show i * 4 + 1 * 4 = (i + 1) * 4 by omega]
theorem take_c (zs : List Bid) (i : Nat) (a : Option Addr) (g cp : Nat) (t : Int) (w0 : World) (hz : Wr encBid 4 30 w0 g zs) (ha : i < zs.length → a = some ⟨g, i * 4, none⟩) (hi : i < zs.length) (hcp : zs.length ≤ cp) (ht : 0 ≤ t ∧ t ≤ (nth zs i).n) (hn : (nth zs i).n ≤ 1000000) :
    CallsV Tryz.prog 49 [.slice a ((List.drop i zs).length) (cp - i), .int .i64 t] w0 (fun v w' => (∃ a', v = .slice a' (List.drop (takeI zs i t) (takeZ zs i t)).length (cp - takeI zs i t) ∧ (takeI zs i t < List.length (takeZ zs i t) → a' = some ⟨g, takeI zs i t * 4, none⟩) ∧ Wr encBid 4 30 w' g (takeZ zs i t)) ∧ Upd (fun j => j = g) w0 w') := by
 have e0 : nth (zs.drop i) 0 = nth zs i := by rw [nth_drop, Nat.add_zero]
 have e1 : nth ((takeZ zs i t).drop i) 0 = takeB (nth zs i) t := by rw [nth_drop, Nat.add_zero, takeZ_nth hi]
 have hdl : (zs.drop i).length = zs.length - i := List.length_drop
 have hdz : ((takeZ zs i t).drop i).length = zs.length - i := by rw [List.length_drop, takeZ_len]
 have haz : i < (takeZ zs i t).length → a = some ⟨g, i * 4, none⟩ := fun _ => ha hi
 refine f_n func49 ?_
 refine go ?_
 refine g_i 0 (Wr.slD hz ha) (fun _ => ?_)
 iterate 2 refine st1 ?_
 refine t_same 8 (v := .int .i64 ((nth zs i).n)) rfl (by rw [e0]) ?_
 refine go ?_
 refine g_i 0 (Wr.slD hz ha) (fun _ => ?_)
 refine go ?_
 refine t_storeW (enc := encBid) (vs := [.int .i64 ((nth zs i).n - t)]) (j := i) (o' := 1) (k := 4) (takeB (nth zs i) t) (fun _ => rfl) sizeOf3 rfl rfl (by omega) rfl hz hi rfl rfl (by decide) (by simp [Value.oneCell']) rfl (fun w6 R8 u7 => ?_)
 have zu7 := u7.size
 have Z10 : Wr encBid 4 30 w6 g (takeZ zs i t) := R8
 refine go ?_
 refine g_i 0 (Wr.slD Z10 haz) (fun _ => ?_)
 iterate 2 refine st1 ?_
 refine t_same 16 (v := .int .i64 ((nth zs i).n - t)) rfl (by rw [e1]; rfl) ?_
 refine go ?_
 refine q_p (fun g17 => ?_) fun g17 => ?_
 ·
  refine go ?_
  refine t_sliceFrom (1) underlying22 sizeOf30 rfl rfl rfl rfl rfl (by rw [List.length_drop]; omega) (by rw [List.length_drop]; omega) ?_
  refine go ?_
  refine f_1 results49 ?_
  have hti : takeI zs i t = i + 1 := if_pos g17
  exact ⟨⟨_, by rw [hti, List.length_drop, List.length_drop, takeZ_len, Nat.sub_sub, Nat.sub_sub], fun h => by rw [hti] at h ⊢; exact take_sub hi (ha hi) hcp (by rwa [takeZ_len] at h), Z10⟩, u_d⟩
 refine go ?_
 refine f_1 results49 ?_
 have hti : takeI zs i t = i := if_neg g17
 exact ⟨⟨_, by rw [hti, List.length_drop, List.length_drop, takeZ_len], fun h => by rw [hti] at h ⊢; exact ha hi, Z10⟩, u_d⟩

end Go.Proofs.YtgoajalaomakpaaGreat
namespace Go.Proofs.YtgoajalaomakpaaGreat
open Go Go.RowKit
/-- How keys and values of a map are laid. -/
structure Cod (α β : Type) where
  k : α → Value
  v : β → Value
def kvG {α β : Type} (c : Cod α β) (p : α × β) : Value × Value := (c.k p.1, c.v p.2)
/-- In block r lies a map with these keys and values. -/
def MapG {α β : Type} (cd : Cod α β) (m : List (α × β)) (w : World) (r : Nat) : Prop := ∃ es c, w.heap[r]? = some (.map es c) ∧ es.toList.map (fun e => (e.key, e.val)) = m.map (kvG cd) ∧ (∀ e ∈ es.toList, e.born < c) ∧ (es.toList.map (·.born)).Nodup
section
variable {α β : Type} {cd : Cod α β}
theorem MapG.lt {m : List (α × β)} {w : World} {r : Nat} (h : MapG cd m w r) : r < w.heap.size := by obtain ⟨es, c, h, _⟩ := h; exact lt_of_block h
theorem MapG.keep {m : List (α × β)} {w w' : World} {r : Nat} {S : Nat → Prop} (h : MapG cd m w r) (u : Upd S w w') (hn : ¬ S r) : MapG cd m w' r := by
  obtain ⟨es, c, h1, h2⟩ := h
  exact ⟨es, c, (u.block r (lt_of_block h1) hn).trans h1, h2⟩
theorem MapG.ne {m : List (α × β)} {w : World} {r b : Nat} {c : Array Value} {t : TypeId} {f : Nat × Nat} (h : MapG cd m w r) (hb : w.heap[b]? = some (.cells c t f)) : r ≠ b := fun e => by
  obtain ⟨es, c, h1, _⟩ := h
  subst e; rw [h1] at hb; cases hb
theorem MapG.ofMemo {w : World} {r : Nat} (h : ∀ F, Memo F w r) : MapG cd [] w r := by
  obtain ⟨es, c, h1, h2⟩ := h (fun _ _ _ => False)
  have he : es.toList = [] := by
    cases he : es.toList with
    | nil => rfl
    | cons e l => obtain ⟨_, _, _, hf⟩ := h2 e (by rw [he]; simp); exact hf.elim
  exact ⟨es, c, h1, by rw [he]; rfl, by rw [he]; simp, by rw [he]; simp⟩
end
/-- Where a key stands, and its value. -/
def fG {α β : Type} [DecidableEq α] : List (α × β) → α → Nat → Option (Nat × β)
  | [], _, _ => none
  | p :: m, a, i => if a = p.1 then some (i, p.2) else fG m a (i + 1)
def gtG {α β : Type} [DecidableEq α] (m : List (α × β)) (a : α) : Option β := (fG m a 0).map (·.2)
def upG {α β : Type} [DecidableEq α] (m : List (α × β)) (a : α) (v : β) : List (α × β) := match fG m a 0 with
  | none => m ++ [(a, v)]
  | some p => m.set p.1 (a, v)
/-- What the key's type must know: whether two keys are one. -/
structure KeyOK (P : Program) (K : TypeId) {α β : Type} [DecidableEq α] (cd : Cod α β) : Prop where
  find : ∀ (m : List (α × β)) (es : List MapEntry) (a : α) (w : World), es.map (fun e => (e.key, e.val)) = m.map (kvG cd) → (Instr.findKey K (cd.k a) es).run P w = .ok ((fG m a 0).map fun p => (p.1, cd.v p.2)) w
  check : ∀ (em : Bool) (a : α) (w : World), (Instr.checkKey em 10000 K (cd.k a)).run P w = .ok () w
  stays : ∀ (a : α) (w : World), (Instr.keyThatStays (cd.k a) (cd.k a)).run P w = .ok (cd.k a) w
section
variable {α β : Type} [DecidableEq α] {cd : Cod α β}
theorem fG_at : ∀ (m : List (α × β)) (a : α) (i : Nat) {j : Nat} {v : β}, fG m a i = some (j, v) → i ≤ j ∧ m[j - i]? = some (a, v)
  | [], _, _, _, _, h => by cases h
  | p :: m, a, i, j, v, h => by
    unfold fG at h
    split at h
    · rename_i e
      simp only [Option.some.injEq, Prod.mk.injEq] at h
      obtain ⟨rfl, rfl⟩ := h
      refine ⟨Nat.le_refl _, ?_⟩
      rw [Nat.sub_self, e]; rfl
    · have := fG_at m a (i + 1) h
      refine ⟨by omega, ?_⟩
      rw [show j - i = (j - (i + 1)) + 1 by omega]
      simpa using this.2
end
section
variable {P : Program} {α β : Type} [DecidableEq α]
theorem findNowG {v : β → Value} {a : Int} : ∀ (m : List (Int × β)) (es : List MapEntry) (i : Nat), es.map (fun e => (e.key, e.val)) = m.map (kvG ⟨.int .i64, v⟩) → Instr.findNow (.int .i64) (.int .i64 a) es i = some ((fG m a i).map fun p => (p.1, v p.2))
  | [], [], i, _ => rfl
  | [], _ :: _, _, h => by simp at h
  | _ :: _, [], _, h => by simp at h
  | p :: m, e :: es, i, h => by
    simp only [List.map_cons, List.cons.injEq, kvG, Prod.mk.injEq] at h
    obtain ⟨⟨hk, hv⟩, h⟩ := h
    have ih := findNowG (a := a) m es (i + 1) h
    by_cases q : a = p.1
    · simp [Instr.findNow, hk, hv, Instr.sameNow, fG, q]
    · have hs : Instr.sameNow (.int .i64) (.int .i64 a) e.key = some false := by rw [hk]; simp [Instr.sameNow, q]
      rw [Instr.findNow, hs]
      simp only [fG, if_neg q]
      exact ih
theorem checkKeyN {K : TypeId} (hK : P.underlying K = some (.int .i64)) (em : Bool) (n : Nat) (a : Int) (w : World) : (Instr.checkKey em (n + 1) K (.int .i64 a)).run P w = .ok () w := by
  simp [Instr.checkKey, run_underlying hK]
theorem KeyOK.int {K : TypeId} (hK : P.underlying K = some (.int .i64)) (v : β → Value) : KeyOK P K (⟨.int .i64, v⟩ : Cod Int β) :=
  ⟨fun m es a w h => by simp [Instr.findKey, run_underlying hK, findNowG m es 0 h], fun em a w => checkKeyN hK em 9999 a w, fun a w => by simp [Instr.keyThatStays, Instr.sameBits]⟩
theorem askG {cd : Cod α β} {K : TypeId} (he : ∀ a b w, (Op.equal K (cd.k a) (cd.k b)).run P w = .ok (decide (a = b)) w) (a : α) (w : World) : ∀ (m : List (α × β)) (es : List MapEntry) (i : Nat), es.map (fun e => (e.key, e.val)) = m.map (kvG cd) →
    (Instr.findAsking K (cd.k a) es i).run P w = .ok ((fG m a i).map fun p => (p.1, cd.v p.2)) w
  | [], [], i, _ => by simp [Instr.findAsking, fG]
  | [], _ :: _, _, h => by simp at h
  | _ :: _, [], _, h => by simp at h
  | p :: m, e :: es, i, h => by
    simp only [List.map_cons, List.cons.injEq, kvG, Prod.mk.injEq] at h
    obtain ⟨⟨hk, hv⟩, h⟩ := h
    have ih := askG he a w m es (i + 1) h
    simp only [Instr.findAsking, Sem.run_bind, hk, he, Result.andThen_ok]
    by_cases q : a = p.1
    · simp [fG, q, hv]
    · simp only [fG, if_neg q, decide_eq_false q]
      simpa using ih
theorem KeyOK.str {cd : Cod α β} {K : TypeId} {fs : Array Field} (hu : P.underlying K = some (.struct fs)) (he : ∀ a b w, (Op.equal K (cd.k a) (cd.k b)).run P w = .ok (decide (a = b)) w)
    (hc : ∀ (em : Bool) (a : α) (w : World), (Instr.checkKey em 10000 K (cd.k a)).run P w = .ok () w) (hs : ∀ (a : α) (w : World), (Instr.keyThatStays (cd.k a) (cd.k a)).run P w = .ok (cd.k a) w) : KeyOK P K cd :=
  ⟨fun m es a w h => by
    cases m with
    | nil =>
      have : es = [] := by simpa using h
      subst this
      simp [Instr.findKey, run_underlying hu, Instr.findNow, fG]
    | cons p m =>
      cases es with
      | nil => simp at h
      | cons e es =>
        have ha := askG he a w (p :: m) (e :: es) 0 h
        simp only [Instr.findKey, Sem.run_bind, run_underlying hu, Result.andThen_ok, Instr.findNow, Instr.sameNow]
        exact ha, hc, hs⟩
end
section steps
variable {rd : Option Nat} {P : Program} {ops : Array Oper} {Q : Exit → Act → World → Prop} {N : Nat} {ds : List Deferred} {rest : List Oper} {L : Slots} {w : World}
variable {α β : Type} [DecidableEq α] {cd : Cod α β}
variable {d : Nat} {ty : TypeId} {pos : String} {aft : Array Edge} {g : Option (Nat × Bool)}
/-- m[a], and whether it is there. -/
theorem t_lookG {T K E : TypeId} {x i : Operand} {r : Nat} {a : α} {z : Value} {m : List (α × β)} (hK : KeyOK P K cd) (hu : P.underlying T = some (.map K E)) (hz : ∀ w, (zeroValue E).run P w = .ok z w)
    (hg : grd ops L g = true) (hN : Nat.blt d N = true) (hx : ev L x = some (.map (some r))) (hi : ev L i = some (cd.k a)) (hm : MapG cd m w r)
    (h0 : gtG m a = none → WL rd P ops Q N ds rest ((d, .tuple #[z, .bool false]) :: L) w) (h1 : ∀ v, gtG m a = some v → WL rd P ops Q N ds rest ((d, .tuple #[cd.v v, .bool true]) :: L) w) : WL rd P ops Q N ds (⟨some d, .lookup T x i true, ty, pos, aft, g⟩ :: rest) L w := by
  obtain ⟨es, c, q1, q2, _⟩ := hm
  have hgo : (getObj r).run P w = .ok (.map es c) w := by simp [getObj, Sem.run, q1]
  have hj := fun w => hK.find m es.toList a w q2
  unfold gtG at h0 h1
  cases hf : fG m a 0 with
  | none =>
    rw [hf] at h0 hj
    refine WL.value hg rfl hN (fun a hk => ?_) (h0 rfl)
    simp only [execOp, hk.ev hx, hk.ev hi]
    simp [Instr.lookup, run_underlying hu, hgo, hK.check, hj, hz]
  | some p =>
    rw [hf] at h1 hj
    refine WL.value hg rfl hN (fun a hk => ?_) (h1 p.2 rfl)
    simp only [execOp, hk.ev hx, hk.ev hi]
    simp [Instr.lookup, run_underlying hu, hgo, hK.check, hj]
/-- m[a]. -/
theorem t_getG {T K E : TypeId} {x i : Operand} {r : Nat} {a : α} {z : Value} {m : List (α × β)} (hK : KeyOK P K cd) (hu : P.underlying T = some (.map K E)) (hz : ∀ w, (zeroValue E).run P w = .ok z w)
    (hg : grd ops L g = true) (hN : Nat.blt d N = true) (hx : ev L x = some (.map (some r))) (hi : ev L i = some (cd.k a)) (hm : MapG cd m w r)
    (h : WL rd P ops Q N ds rest ((d, match gtG m a with | some v => cd.v v | none => z) :: L) w) : WL rd P ops Q N ds (⟨some d, .lookup T x i false, ty, pos, aft, g⟩ :: rest) L w := by
  obtain ⟨es, c, q1, q2, _⟩ := hm
  have hgo : (getObj r).run P w = .ok (.map es c) w := by simp [getObj, Sem.run, q1]
  have hj := fun w => hK.find m es.toList a w q2
  unfold gtG at h
  cases hf : fG m a 0 with
  | none =>
    rw [hf] at h hj
    refine WL.value hg rfl hN (fun a hk => ?_) h
    simp only [execOp, hk.ev hx, hk.ev hi]
    simp [Instr.lookup, run_underlying hu, hgo, hK.check, hj, hz]
  | some p =>
    rw [hf] at h hj
    refine WL.value hg rfl hN (fun a hk => ?_) h
    simp only [execOp, hk.ev hx, hk.ev hi]
    simp [Instr.lookup, run_underlying hu, hgo, hK.check, hj]
/-- m[a] = v. -/
theorem t_mapG {T K E : TypeId} {x i y : Operand} {r : Nat} {a : α} {v : β} {m : List (α × β)} (hK : KeyOK P K cd) (hu : P.underlying T = some (.map K E))
    (hg : grd ops L g = true) (hx : ev L x = some (.map (some r))) (hi : ev L i = some (cd.k a)) (hy : ev L y = some (cd.v v)) (hm : MapG cd m w r)
    (h : ∀ w', w'.heap.size = w.heap.size → MapG cd (upG m a v) w' r → Upd (· = r) w w' → WL rd P ops Q N ds rest L w') : WL rd P ops Q N ds (⟨none, .mapUpdate T x i y, ty, pos, aft, g⟩ :: rest) L w := by
  obtain ⟨es, c, h1, h2, h3, h4⟩ := hm
  have hlt := lt_of_block h1
  have hgo : (getObj r).run P w = .ok (.map es c) w := by simp [getObj, Sem.run, h1]
  have hset : ∀ o, (setObj r o).run P w = .ok () { w with heap := w.heap.setIfInBounds r o } := fun o => by simp [setObj, Sem.run, h1]
  have hupd : ∀ o, Upd (· = r) w { w with heap := w.heap.setIfInBounds r o } := fun o => ⟨rfl, rfl, rfl, by simp, fun k hk hn => by simp [Array.getElem?_setIfInBounds_ne (show r ≠ k from fun e => hn e.symm)]⟩
  have hj := fun w => hK.find m es.toList a w h2
  unfold upG at h
  cases hf : fG m a 0 with
  | none =>
    rw [hf] at h hj
    refine WL.effect (w' := { w with heap := w.heap.setIfInBounds r (.map (es.push { key := cd.k a, val := cd.v v, born := c }) (c + 1)) }) hg rfl (fun ac hk => ?_) (h _ (by simp) ⟨_, _, by simp [hlt]; exact ⟨rfl, rfl⟩, ?_, ?_, ?_⟩ (hupd _))
    · simp only [execOp, hk.ev hx, hk.ev hi, hk.ev hy]
      simp [Instr.mapUpdate, run_underlying hu, hgo, hK.check, hj, hset]
    · rw [Array.toList_push, List.map_append, h2, List.map_append]; rfl
    · intro e he
      rw [Array.toList_push] at he
      rcases List.mem_append.1 he with he | he
      · have := h3 e he; omega
      · rw [List.mem_singleton.1 he]; exact Nat.lt_succ_self c
    · rw [Array.toList_push, List.map_append, List.nodup_append]
      refine ⟨h4, by simp, fun x hx y hy e => ?_⟩
      obtain ⟨q, hq, rfl⟩ := List.mem_map.1 hx
      have h5 := h3 q hq
      simp at hy
      omega
  | some p =>
    obtain ⟨j, u⟩ := p
    rw [hf] at h hj
    simp only [] at h
    have hmod : ∀ (q : Nat), (es.toList.modify j fun e => { e with key := cd.k a, val := cd.v v })[q]? = if j = q then (es.toList[q]?).map (fun e => { e with key := cd.k a, val := cd.v v }) else es.toList[q]? := fun q => by
      rw [List.getElem?_modify]
      by_cases hq : j = q
      · simp [hq]
      · simp [hq]
    have hat := fG_at m a 0 hf
    rw [Nat.sub_zero] at hat
    have hjl : j < es.toList.length := by
      have h6 := congrArg List.length h2
      rw [List.length_map, List.length_map] at h6
      have := (List.getElem?_eq_some_iff.1 hat.2).1
      omega
    have hjs : j < es.size := by simpa using hjl
    have hek : (es[j]?).map (·.key) = some (cd.k a) := by
      have h7 : (es.toList.map (fun e => (e.key, e.val)))[j]? = (m.map (kvG cd))[j]? := by rw [h2]
      rw [List.getElem?_map, List.getElem?_map, hat.2] at h7
      rw [Array.getElem?_toList] at h7
      cases he : es[j]? with
      | none => rw [he] at h7; cases h7
      | some e => rw [he] at h7; simp [kvG] at h7; simp [h7.1]
    have hkey : ((es[j]?).map (·.key)).getD (cd.k a) = cd.k a := by rw [hek]; rfl
    have hsame := fun w => hK.stays a w
    have hml : (es.modify j fun e => { e with key := cd.k a, val := cd.v v }).toList = es.toList.modify j fun e => { e with key := cd.k a, val := cd.v v } := by simp
    refine WL.effect (w' := { w with heap := w.heap.setIfInBounds r (.map (es.modify j fun e => { e with key := cd.k a, val := cd.v v }) c) }) hg rfl (fun ac hk => ?_) (h _ (by simp) ⟨_, _, by simp [hlt]; exact ⟨rfl, rfl⟩, ?_, ?_, ?_⟩ (hupd _))
    · simp only [execOp, hk.ev hx, hk.ev hi, hk.ev hy]
      simp only [Instr.mapUpdate]
      simp [run_underlying hu, hgo, hK.check, hj, hset, hkey, hsame]
    · rw [hml]
      refine List.ext_getElem? fun q => ?_
      rw [List.getElem?_map, hmod, List.getElem?_map]
      have h7 : (es.toList.map (fun e => (e.key, e.val)))[q]? = (m.map (kvG cd))[q]? := by rw [h2]
      rw [List.getElem?_map, List.getElem?_map] at h7
      by_cases hq : j = q
      · subst hq
        rw [if_pos rfl, List.getElem?_set_self (by rw [← List.length_map (f := kvG cd), ← h2, List.length_map]; exact hjl), List.getElem?_eq_getElem hjl]; rfl
      · rw [if_neg hq, List.getElem?_set_ne hq]
        cases he : es.toList[q]? with
        | none => rw [he] at h7; simpa using h7
        | some e => rw [he] at h7; simpa using h7
    · intro e he
      rw [hml] at he
      obtain ⟨q, hq⟩ := List.getElem?_of_mem he
      rw [hmod] at hq
      cases h8 : es.toList[q]? with
      | none => rw [h8] at hq; simp at hq
      | some e0 =>
        rw [h8] at hq
        have h9 := h3 e0 (List.mem_of_getElem? h8)
        split at hq
        · simp only [Option.map_some, Option.some.injEq] at hq; subst hq; exact h9
        · simp only [Option.some.injEq] at hq; subst hq; exact h9
    · have hb : (es.modify j fun e => { e with key := cd.k a, val := cd.v v }).toList.map (·.born) = es.toList.map (·.born) := by
        rw [hml]
        refine List.ext_getElem? fun q => ?_
        rw [List.getElem?_map, hmod, List.getElem?_map]
        split
        · cases es.toList[q]? <;> rfl
        · rfl
      rw [hb]; exact h4
end steps
section steps2
variable {rd : Option Nat} {P : Program} {ops : Array Oper} {Q : Exit → Act → World → Prop} {N : Nat} {ds : List Deferred} {rest : List Oper} {L : Slots} {w : World}
variable {α β : Type} {cd : Cod α β}
variable {d : Nat} {ty : TypeId} {pos : String} {aft : Array Edge} {g : Option (Nat × Bool)}
/-- A range over the map in block r is under way, its iterator lies in block it; these entries are to come. -/
def ItG {α β : Type} (cd : Cod α β) (m left : List (α × β)) (w : World) (r it : Nat) : Prop := ∃ es c since seen c0, w.heap[r]? = some (.map es c) ∧ es.toList.map (fun e => (e.key, e.val)) = m.map (kvG cd) ∧ (es.toList.map (·.born)).Nodup ∧ w.heap[it]? = some (.mapIter (some r) since seen c0) ∧ (∀ e ∈ es.toList, e.born < since) ∧ since ≤ c0 ∧ since ≤ c ∧ (leftOf es seen).toList.map (fun e => (e.key, e.val)) = left.map (kvG cd)
/-- The same, and this entry has just come. -/
def ItH {α β : Type} (cd : Cod α β) (m left : List (α × β)) (p : α × β) (w : World) (r it : Nat) : Prop := ItG cd m left w r it ∧ ∃ (es : Array MapEntry) (c since : Nat) (seen : Array Nat) (e : MapEntry), w.heap[r]? = some (.map es c) ∧ w.heap[it]? = some (.mapIter (some r) since (seen.push e.born) c) ∧ e ∈ es.toList ∧ (es.toList.map (·.born)).Nodup ∧ (e.key, e.val) = (kvG cd) p
theorem ItG.keep {m left : List (α × β)} {w w' : World} {r it : Nat} {S : Nat → Prop} (h : ItG cd m left w r it) (u : Upd S w w') (h1 : ¬ S r) (h2 : ¬ S it) : ItG cd m left w' r it := by
  obtain ⟨es, c, since, seen, c0, q1, q2, q3, q4, q5⟩ := h
  exact ⟨es, c, since, seen, c0, (u.block r (lt_of_block q1) h1).trans q1, q2, q3, (u.block it (lt_of_block q4) h2).trans q4, q5⟩
theorem ItG.same {m left : List (α × β)} {w w' : World} {r it : Nat} (h : ItG cd m left w r it) (h1 : w'.heap[r]? = w.heap[r]?) (h2 : w'.heap[it]? = w.heap[it]?) : ItG cd m left w' r it := by
  obtain ⟨es, c, since, seen, c0, q1, q2, q3, q4, q5⟩ := h
  exact ⟨es, c, since, seen, c0, h1.trans q1, q2, q3, h2.trans q4, q5⟩
theorem ItG.map {m left : List (α × β)} {w : World} {r it : Nat} (h : ItG cd m left w r it) : ∃ a b, w.heap[r]? = some (.map a b) := by obtain ⟨es, c, since, seen, c0, q1, q2, q3, q4, q5⟩ := h; exact ⟨_, _, q1⟩
theorem t_rangeG {T K E : TypeId} {x : Operand} {r : Nat} {m : List (α × β)} (hu : P.underlying T = some (.map K E)) (hg : grd ops L g = true) (hN : Nat.blt d N = true) (hx : ev L x = some (.map (some r))) (hm : MapG cd m w r)
    (h : ∀ it w', it = w.heap.size → w'.heap.size = w.heap.size + 1 → ItG cd m m w' r it → Ext w w' → WL rd P ops Q N ds rest ((d, .pointer (some ⟨it, 0, none⟩)) :: L) w') : WL rd P ops Q N ds (⟨some d, .range T x, ty, pos, aft, g⟩ :: rest) L w := by
  obtain ⟨es, c, h1, h2, h3, h4⟩ := hm
  have hlt := lt_of_block h1
  refine WL.value hg rfl hN (fun a hk => ?_) (h w.heap.size _ rfl (by simp) ⟨es, c, c, #[], c, (Below.heap_alloc _ _ _ hlt).trans h1, h2, h4, heap_alloc_new _ _, h3, Nat.le_refl _, Nat.le_refl _, by rw [show leftOf es #[] = es by simp [leftOf]]; exact h2⟩ (Upd.alloc _ _))
  simp only [execOp, hk.ev hx]
  simp [run_range_map w T K E r es c hu h1]
theorem filter_cut {l : List MapEntry} {e : MapEntry} (hn : (l.map (·.born)).Nodup) {p : MapEntry → Bool} (he : e ∈ l.filter p) : ∃ l1 l2, l.filter p = l1 ++ e :: l2 ∧ l.filter (fun x => p x && !(x.born == e.born)) = l1 ++ l2 := by
  obtain ⟨l1, l2, h⟩ := List.append_of_mem he
  refine ⟨l1, l2, h, ?_⟩
  have hn2 : ((l.filter p).map (·.born)).Nodup := hn.sublist (List.Sublist.map _ List.filter_sublist)
  have hff : l.filter (fun x => p x && !(x.born == e.born)) = (l.filter p).filter (fun x => !(x.born == e.born)) := by
    rw [List.filter_filter]
    congr 1
    funext x
    exact Bool.and_comm _ _
  rw [hff, h]
  rw [h, List.map_append, List.map_cons, List.nodup_append] at hn2
  obtain ⟨n1, n2, n3⟩ := hn2
  rw [List.nodup_cons] at n2
  rw [List.filter_append, List.filter_cons]
  have f1 : l1.filter (fun x => !(x.born == e.born)) = l1 := by
    rw [List.filter_eq_self]
    intro x hx
    have := n3 x.born (List.mem_map.2 ⟨x, hx, rfl⟩) e.born (by simp)
    simpa using this
  have f2 : l2.filter (fun x => !(x.born == e.born)) = l2 := by
    rw [List.filter_eq_self]
    intro x hx
    have : x.born ≠ e.born := fun q => n2.1 (by rw [← q]; exact List.mem_map.2 ⟨x, hx, rfl⟩)
    simpa using this
  simp [f1, f2]
theorem t_nextG {x : Operand} {r it : Nat} {m left : List (α × β)} (hg : grd ops L g = true) (hN : Nat.blt d N = true) (hx : ev L x = some (.pointer (some ⟨it, 0, none⟩))) (hm : ItG cd m left w r it)
    (h0 : left = [] → WL rd P ops Q N ds rest ((d, .tuple #[.bool false]) :: L) w)
    (h1 : ∀ l1 p l2 w', left = l1 ++ p :: l2 → w'.heap.size = w.heap.size → ItH cd m (l1 ++ l2) p w' r it → Upd (· = it) w w' → WL rd P ops Q N ds rest ((d, .tuple #[.bool true, cd.k p.1, cd.v p.2]) :: L) w') : WL rd P ops Q N ds (⟨some d, .next x false, ty, pos, aft, g⟩ :: rest) L w := by
  obtain ⟨es, c, since, seen, c0, q1, q2, q3, q4, q5, q6, q7, q8⟩ := hm
  have hex : ∀ a, Kn N ds L a → execOp a.eval ⟨some d, .next x false, ty, pos, aft, g⟩ = (do let v ← Instr.next (.pointer (some ⟨it, 0, none⟩)) false ty; pure (.value v)) := fun a hk => by
    simp only [execOp, hk.ev hx]
  rcases run_next_at (P := P) w ty it r since c0 seen es c q4 q1 q5 q6 with ⟨s0, hrun⟩ | ⟨e, he, w1, hal, hrun⟩
  · have hl : left = [] := by
      have : (leftOf es seen).toList = [] := by
        have := Array.eq_empty_of_size_eq_zero s0
        rw [this]
      rw [this] at q8
      simpa using q8.symm
    refine WL.value hg rfl hN (fun a hk => ?_) (h0 hl)
    rw [hex a hk]; simp [hrun]
  · have hlf : (leftOf es seen).toList = es.toList.filter fun e => !seen.contains e.born := by simp [leftOf]
    rw [hlf] at he q8
    obtain ⟨l1, l2, c1, c2⟩ := filter_cut q3 he
    have hem : e ∈ es.toList := (List.mem_filter.1 he).1
    rw [c1, List.map_append, List.map_cons] at q8
    obtain ⟨m1, m', e1, e2, e3⟩ := List.map_eq_append_iff.1 q8.symm
    obtain ⟨p, m2, e4, e5, e6⟩ := List.map_eq_cons_iff.1 e3
    have hr1 : w1.heap[it]? = some (.mapIter (some r) since seen c0) := by rcases hal with rfl | rfl <;> exact q4
    have hb1 : w1.heap[r]? = some (.map es c) := by rcases hal with rfl | rfl <;> exact q1
    have hne : r ≠ it := fun q => by rw [q, q4] at q1; cases q1
    have hset : (ChangeMaps.setBlock w1 it (.mapIter (some r) since (seen.push e.born) c)).heap[it]? = some (.mapIter (some r) since (seen.push e.born) c) ∧ ∀ k, k ≠ it → (ChangeMaps.setBlock w1 it (.mapIter (some r) since (seen.push e.born) c)).heap[k]? = w1.heap[k]? := MapKept.heap_set hr1
    have hb2 := (hset.2 r hne).trans hb1
    have hup : Upd (· = it) w (ChangeMaps.setBlock w1 it (.mapIter (some r) since (seen.push e.born) c)) := by
      rcases hal with rfl | rfl <;> exact ⟨rfl, rfl, rfl, by simp [ChangeMaps.setBlock], fun k _ hn => hset.2 k hn⟩
    have hsz : (ChangeMaps.setBlock w1 it (.mapIter (some r) since (seen.push e.born) c)).heap.size = w.heap.size := by rcases hal with rfl | rfl <;> simp [ChangeMaps.setBlock]
    have hl2 : (leftOf es (seen.push e.born)).toList = l1 ++ l2 := by
      rw [← c2]
      simp only [leftOf, Array.toList_filter]
      congr 1
      funext x
      rw [contains_push]
      cases seen.contains x.born <;> simp
    have hN1 : ItH cd m (m1 ++ m2) p (ChangeMaps.setBlock w1 it (.mapIter (some r) since (seen.push e.born) c)) r it := by
      refine ⟨⟨es, c, since, seen.push e.born, c, hb2, q2, q3, hset.1, q5, q7, q7, ?_⟩, es, c, since, seen, e, hb2, hset.1, hem, q3, e5.symm⟩
      rw [hl2, List.map_append, List.map_append, e2, e6]
    have hfin := h1 m1 p m2 _ (by rw [e1, e4]) hsz hN1 hup
    refine WL.value hg rfl hN (fun a hk => ?_) hfin
    rw [hex a hk]
    have k1 : e.key = cd.k p.1 := (congrArg Prod.fst e5).symm
    have k2 : e.val = cd.v p.2 := (congrArg Prod.snd e5).symm
    simp [hrun, k1, k2]
theorem t_entryG {x : Operand} {r it : Nat} {m left : List (α × β)} {p : α × β} (hg : grd ops L g = true) (hN : Nat.blt d N = true) (hx : ev L x = some (.pointer (some ⟨it, 0, none⟩))) (hm : ItH cd m left p w r it)
    (h : WL rd P ops Q N ds rest ((d, .tuple #[cd.k p.1, cd.v p.2]) :: L) w) : WL rd P ops Q N ds (⟨some d, .entry x, ty, pos, aft, g⟩ :: rest) L w := by
  obtain ⟨_, es, c, since, seen, e, q1, q2, q3, q4, q5⟩ := hm
  have hr := run_entry_at (P := P) w it r since seen es c e q2 q1 q3 q4
  have k1 : e.key = cd.k p.1 := congrArg Prod.fst q5
  have k2 : e.val = cd.v p.2 := congrArg Prod.snd q5
  rw [k1, k2] at hr
  exact WL.value hg rfl hN (fun a hk => by simp only [execOp, hk.ev hx]; simp [hr]) h
end steps2
end Go.Proofs.YtgoajalaomakpaaGreat
