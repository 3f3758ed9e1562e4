/-
  Part 13 of the proof: contracts and plain laws. Conditions: none.
-/
import Derived.Test.YtjkpkbdoljjeiaaGreatAK12
namespace Go.Proofs.YtjkpkbdoljjeiaaGreat
open Go Go.RowKit
section
variable {rd : Option Nat} {P : Program} {ops : Array Oper} {Q : Exit → Act → World → Prop} {N : Nat} {ds : List Deferred} {rest : List Oper} {L : Slots} {w : World}
variable {d : Nat} {ty : TypeId} {pos : String} {aft : Array Edge} {g : Option (Nat × Bool)}
theorem t_ariW {op : BinOp} {xt yt : TypeId} {x y : Operand} {m n r : Int} (hg : grd ops L g = true) (hN : Nat.blt d N = true)
    (hx : ev L x = some (.int .u64 m)) (hy : ev L y = some (.int .u64 n)) (hv : ariI op m n = some r) (hr : 0 ≤ r ∧ r ≤ 18446744073709551615)
    (h : WL rd P ops Q N ds rest ((d, .int .u64 r) :: L) w) : WL rd P ops Q N ds (⟨some d, .binOp op xt x y yt, ty, pos, aft, g⟩ :: rest) L w :=
  WL.value hg rfl hN (fun a ha => by
    have e1 := ha.ev hx
    have e2 := ha.ev hy
    have e3 := IntWalk.u64_in r hr
    cases op <;> simp [ariI] at hv <;> subst hv <;> simp [execOp, e1, e2, eqGuard, binOp, Op.intArith, e3]) h
theorem t_and32 {xt yt : TypeId} {x y : Operand} {m : Int} (hg : grd ops L g = true) (hN : Nat.blt d N = true) (hx : ev L x = some (.int .u64 m)) (hy : ev L y = some (.int .u64 4294967295)) (h0 : 0 ≤ m ∧ m ≤ 4294967295)
    (h : WL rd P ops Q N ds rest ((d, .int .u64 m) :: L) w) : WL rd P ops Q N ds (⟨some d, .binOp .and xt x y yt, ty, pos, aft, g⟩ :: rest) L w :=
  WL.value hg rfl hN (fun a ha => by
    have e : bits BinOp.and IntKind.u64 m 4294967295 = m := by
      have e1 : m.toNat &&& 4294967295 = m.toNat := by
        have := Nat.and_two_pow_sub_one_eq_mod m.toNat 32
        rw [show (2 ^ 32 - 1 : Nat) = 4294967295 from rfl] at this
        rw [this]; omega
      have e4 := IntWalk.u64_in m (by omega)
      have e5 : (m % 2 ^ IntKind.u64.bits).toNat &&& 4294967295 % 2 ^ IntKind.u64.bits = m.toNat := by
        show (m % 18446744073709551616).toNat &&& 4294967295 = m.toNat
        rw [Int.emod_eq_of_lt h0.1 (by omega)]
        exact e1
      unfold bits
      simp
      rw [e5, Int.toNat_of_nonneg h0.1]
      exact e4
    simp [execOp, ha.ev hx, ha.ev hy, eqGuard, binOp, Op.intBits]
    exact e) h
theorem t_shr32 {xt yt : TypeId} {x y : Operand} {k' : IntKind} {m : Int} (hg : grd ops L g = true) (hN : Nat.blt d N = true) (hx : ev L x = some (.int .u64 m)) (hy : ev L y = some (.int k' 32)) (_h0 : 0 ≤ m)
    (h : WL rd P ops Q N ds rest ((d, .int .u64 (m / 4294967296)) :: L) w) : WL rd P ops Q N ds (⟨some d, .binOp .shr xt x y yt, ty, pos, aft, g⟩ :: rest) L w :=
  WL.value hg rfl hN (fun a ha => by
    have e : m.fdiv 4294967296 = m / 4294967296 := Int.fdiv_eq_ediv_of_nonneg m (by decide)
    simp [execOp, ha.ev hx, ha.ev hy, eqGuard, binOp, Op.shift, IntKind.bits, e]) h
theorem t_quoW {xt yt : TypeId} {x y : Operand} {m n : Int} (hg : grd ops L g = true) (hN : Nat.blt d N = true)
    (hx : ev L x = some (.int .u64 m)) (hy : ev L y = some (.int .u64 n)) (h1 : 0 ≤ m ∧ m ≤ 18446744073709551615) (h2 : 1 ≤ n)
    (h : WL rd P ops Q N ds rest ((d, .int .u64 (m / n)) :: L) w) : WL rd P ops Q N ds (⟨some d, .binOp .quo xt x y yt, ty, pos, aft, g⟩ :: rest) L w :=
  WL.value hg rfl hN (fun a ha => by
    have e1 := ha.ev hx
    have e2 := ha.ev hy
    have e5 : m.tdiv n = m / n := Int.tdiv_eq_ediv_of_nonneg h1.1
    have e6 : 0 ≤ m / n ∧ m / n ≤ m := ⟨Int.ediv_nonneg h1.1 (by omega), Int.ediv_le_self n h1.1⟩
    have e3 : IntKind.u64.wrap (m.tdiv n) = m / n := by rw [e5]; exact IntWalk.u64_in _ (by omega)
    have e4 : n ≠ 0 := by omega
    simp [execOp, e1, e2, eqGuard, binOp, Op.intDiv, e3, e4]) h
end
end Go.Proofs.YtjkpkbdoljjeiaaGreat
namespace Go.Proofs.YtjkpkbdoljjeiaaGreat
open Go Go.RowKit Go.Proofs.Tryz

theorem sp_bd {n a b c : Int} (hn : 0 ≤ n) (ha : 0 < a) (hb : 0 ≤ b) (hbc : b ≤ c) (hc : c ≤ a) : (0 ≤ n * b / a ∧ n * b / a ≤ n * c / a) ∧ n * c / a ≤ n := by
  have h1 := Int.ediv_le_ediv ha (Int.mul_le_mul_of_nonneg_left hbc hn)
  have h2 := Int.ediv_le_ediv ha (Int.mul_le_mul_of_nonneg_left hc hn)
  rw [Int.mul_ediv_cancel _ (by omega)] at h2
  exact ⟨⟨Int.ediv_nonneg (Int.mul_nonneg hn hb) (by omega), h1⟩, h2⟩
theorem own46 : Own Tryz.prog 46 := ⟨Tryz.f46, func46, by kernel_rfl, by kernel_rfl⟩
theorem own47 : Own Tryz.prog 47 := ⟨Tryz.f47, func47, by kernel_rfl, by kernel_rfl⟩
theorem awithin1_c (lo hi n : Int) (b c : Nat) (t1 t2 : TypeId) (w0 : World) (hb : Blk w0 b t1 [.int .i64 lo]) (hc : Blk w0 c t2 [.int .i64 hi]) :
    CallsV Tryz.prog 46 [.int .i64 n, .pointer (some ⟨b, 0, none⟩), .pointer (some ⟨c, 0, none⟩)] w0 (fun v w' => v = .bool (out1 lo hi n) ∧ Ext w0 w') := by
 refine f_n func46 ?_
 refine go ?_
 refine t_splitp 8 rfl (fun g8 => ?_) (fun g8 => ?_)
 ·
  refine go ?_
  refine f_1 results46 ?_
  exact ⟨by simp [out1, *], u_d⟩
 refine go ?_
 refine f_1 results46 ?_
 exact ⟨by simp [out1, *], u_d⟩

theorem awithin_c (lo hi : Int) (xs : List Int) (ao : Option Addr) (b o cap : Nat) (w0 : World) (hs : Sl encI 1 w0 ao b o xs) (hl : xs.length ≤ 1000000) :
    CallsV Tryz.prog 22 [.int .i64 lo, .int .i64 hi, .slice ao xs.length cap] w0 (fun v w' => v = .bool (decide (∀ n ∈ xs, lo ≤ n ∧ n ≤ hi)) ∧ Ext w0 w') := by
 refine f_n func22 ?_
 refine go ?_
 refine x_b fun bk2 w3 ebk2 sbk2 B4 u5 => ?_
 refine x_b fun bk7 w8 ebk7 sbk7 B9 u10 => ?_
 refine go ?_
 refine t_mkfunc (vs := []) (us := [.pointer (some ⟨bk2, 0, none⟩), .pointer (some ⟨bk7, 0, none⟩)]) rfl rfl rfl rfl ?_
 have B13 := (B4.kx u10)
 refine x_c func45 rfl rfl (containsI_c (out1 lo hi) 46 [.pointer (some ⟨bk2, 0, none⟩), .pointer (some ⟨bk7, 0, none⟩)] xs ao b o cap _ own46 (fun x _ w u => awithin1_c lo hi x bk2 bk7 _ _ w (B13.keep u (fun h => h)) (B9.keep u (fun h => h))) (hs.keep (((Upd.refl (fun _ => False) w0).nx u5).nx u10) (fun _ h => h)) hl) ?_
 rintro _ w15 ⟨rfl, u16⟩ zu16
 refine go ?_
 refine f_1 results22 ?_
 exact ⟨by rw [not_any_out], u_d⟩

theorem awithin1_v (lo hi m : Int) (b : Nat) (t : TypeId) (w : World) (h : Blk w b t [.int .i64 m]) : CallsV Tryz.prog 22 [.int .i64 lo, .int .i64 hi, .slice (some ⟨b, 0, none⟩) 1 1] w (fun v w' => v = .bool (decide (lo ≤ m ∧ m ≤ hi)) ∧ Ext w w') :=
  (awithin_c lo hi [m] _ b 0 1 w (SlI.own (xs := [m]) h) (by simp)).mono fun v w' ⟨e, u⟩ => ⟨by rw [e]; simp, u⟩

theorem asum_c (xs : List Int) (ao : Option Addr) (b o cap : Nat) (w0 : World) (hs : Sl encI 1 w0 ao b o xs) (hl : xs.length ≤ 100) (hbB : ∀ x ∈ xs, 0 ≤ x ∧ x ≤ 100000000000000) :
    CallsV Tryz.prog 23 [.slice ao xs.length cap] w0 (fun v w' => v = .int .i64 (preS xs xs.length) ∧ Ext w0 w') := by
 have hb : ∀ x ∈ xs, 0 ≤ x := fun x hx => (hbB x hx).1
 refine f_n func23 ?_
 refine go ?_
 refine x_l1 (fun _ => False) [5, 6] (fun (k : Nat) => [(2, .int .i64 (preS xs k)), (7, .int .i64 (k : Int))]) (fun k w => (k ≤ xs.length)) (fun k => xs.length - k) 0 (Nat.zero_le _) ?_
 rintro k w5 hk u6 zu6 K4 hK4
 refine go ?_
 refine q_p (fun g8 => ?_) fun g8 => ?_
 ·
  have hb9 := preS_up hb (j := k) (k := k) (Nat.le_refl _) (by omega)
  have hm9 := preS_bd (ws := xs) (B := 100000000000000) (fun j hj => hbB _ (nth_mem hj)) (k := k) (by omega)
  have hx9 := hbB _ (nth_mem (xs := xs) (i := k) (by omega))
  refine go ?_
  refine g_i k (hs.keep ((Upd.refl (fun _ => False) w0).nx u6) (fun _ h => h)) (fun _ => ?_)
  refine go ?_
  exact hK4 (k + 1) (by omega)
 refine go ?_
 refine f_1 results23 ?_
 exact ⟨congrArg (Value.int .i64) (by rw [show k = xs.length by omega]), u_d⟩

theorem mul64_c (x y : Int) (w0 : World) (hx : 0 ≤ x ∧ x ≤ 4294967295) (hy : 0 ≤ y ∧ y ≤ 4294967295) :
    CallsV Tryz.prog 62 [.int .u64 x, .int .u64 y] w0 (fun v w' => v = .tuple #[.int .u64 0, .int .u64 (x * y)] ∧ Ext w0 w') := by
 have hxy := mul_bd hx hy
 refine f_n func62 ?_
 refine go ?_
 refine t_and32 rfl rfl rfl rfl (by omega) ?_
 refine go ?_
 refine t_shr32 rfl rfl rfl rfl (by omega) (t_same 17 (v := .int .u64 0) rfl (congrArg (Value.int .u64) (by omega)) ?_)
 refine go ?_
 refine t_and32 rfl rfl rfl rfl (by omega) ?_
 refine go ?_
 refine t_shr32 rfl rfl rfl rfl (by omega) (t_same 21 (v := .int .u64 0) rfl (congrArg (Value.int .u64) (by omega)) ?_)
 refine go ?_
 refine t_ariW rfl rfl rfl rfl rfl (by omega) ?_
 refine go ?_
 refine t_ariW rfl rfl rfl rfl rfl (by omega) (t_same 27 (v := .int .u64 0) rfl (congrArg (Value.int .u64) (by omega)) ?_)
 refine go ?_
 refine t_shr32 rfl rfl rfl rfl (by omega) (t_ariW rfl rfl rfl rfl rfl (by omega) ?_)
 refine go ?_
 refine t_and32 rfl rfl rfl rfl (by omega) ?_
 refine go ?_
 refine t_shr32 rfl rfl rfl rfl (by omega) (t_same 34 (v := .int .u64 0) rfl (congrArg (Value.int .u64) (by omega)) ?_)
 refine go ?_
 refine t_ariW rfl rfl rfl rfl rfl (by omega) (t_same 38 (v := .int .u64 0) rfl (congrArg (Value.int .u64) (by omega)) (t_ariW rfl rfl rfl rfl rfl (by omega) ?_))
 refine go ?_
 refine t_ariW rfl rfl rfl rfl rfl (by omega) (t_same 42 (v := .int .u64 0) rfl (congrArg (Value.int .u64) (by omega)) ?_)
 refine go ?_
 refine t_ariW rfl rfl rfl rfl rfl (by omega) ?_
 refine go ?_
 refine t_shr32 rfl rfl rfl rfl (by omega) (t_same 46 (v := .int .u64 0) rfl (congrArg (Value.int .u64) (by omega)) (t_ariW rfl rfl rfl rfl rfl (by omega) (t_same 47 (v := .int .u64 0) rfl (congrArg (Value.int .u64) (by omega)) ?_)))
 refine go ?_
 refine t_ariW rfl rfl rfl rfl rfl (by omega) ?_
 refine go ?_
 refine f_ret2 (v1 := .int .u64 0) (v2 := .int .u64 (x * y)) results62 rfl rfl ?_
 exact ⟨rfl, u_d⟩

theorem div64_c (x y : Int) (w0 : World) (hx : 0 ≤ x ∧ x ≤ 18446744073709551615) (hy : 1 ≤ y) :
    CallsV Tryz.prog 63 [.int .u64 0, .int .u64 x, .int .u64 y] w0 (fun v w' => v = .tuple #[.int .u64 (x / y), .int .u64 (x % y)] ∧ Ext w0 w') := by
 refine f_n func63 ?_
 iterate 11 refine st1 ?_
 refine t_same 20 (v := .bool false) rfl (congrArg Value.bool (decide_eq_false (by omega))) ?_
 iterate 11 refine st1 ?_
 refine t_same 24 (v := .bool false) rfl (congrArg Value.bool (decide_eq_false (by omega))) ?_
 refine go ?_
 refine c_drawnM follows (fun _ => False) (OTl [0, 2, 6, 8, 10, 5, 12, 14]) (by kernel_rfl) fun w9 u10 => ?_
 have zu10 := u10.size
 refine go ?_
 refine y_rem8 rfl rfl rfl rfl (by omega) (by omega) ?_
 refine go ?_
 refine t_quoW rfl rfl rfl rfl (by omega) (by omega) ?_
 refine go ?_
 refine f_ret2 (v1 := .int .u64 (x / y)) (v2 := .int .u64 (x % y)) results63 rfl rfl ?_
 exact ⟨rfl, u_d⟩

theorem next_c (ps : Nat) (n a bf gn wt : Int) (w0 : World) (hp : Blk w0 ps 118 [.int .u64 n, .int .u64 a, .int .u64 bf, .int .u64 gn]) (hn : 0 ≤ n ∧ n ≤ 4294967295) (ha : 1 ≤ a) (hbf : 0 ≤ bf) (hwt : 0 ≤ wt) (hbw : bf + wt ≤ 4294967295) (hgn : 0 ≤ gn ∧ gn ≤ (n * (bf + wt) / a)) (hnx : (n * (bf + wt) / a) ≤ 9223372036854775807) :
    CallsV Tryz.prog 47 [.pointer (some ⟨ps, 0, none⟩), .int .i64 wt] w0 (fun v w' => v = .int .i64 (n * (bf + wt) / a - gn) ∧ Blk w' ps 118 [.int .u64 n, .int .u64 a, .int .u64 (bf + wt), .int .u64 (n * (bf + wt) / a)] ∧ Upd (fun i => i = ps) w0 w') := by
 have hxy := mul_bd hn (show 0 ≤ bf + wt ∧ bf + wt ≤ 4294967295 by omega)
 refine f_n func47 ?_
 refine go ?_
 refine t_conv underlying3 underlying116 rfl rfl rfl (IntWalk.u64_in _ (by omega)) (t_ariW rfl rfl rfl rfl rfl (by omega) ?_)
 refine go ?_
 refine x_s fun w3 sw3 B5 u4 => ?_
 refine go ?_
 refine c_drawnM follows (fun _ => False) (OTl [0, 2, 4, 6, 8, 10, 12, 14, 17, 18, 20, 22, 24, 26]) (by kernel_rfl) fun w8 u9 => ?_
 have zu9 := u9.size
 refine go ?_
 refine x_c func62 rfl rfl (mul64_c n (bf + wt) _ (by omega) (by omega)) ?_
 rintro _ w12 ⟨rfl, u13⟩ zu13
 refine go ?_
 refine x_c func63 rfl rfl (div64_c (n * (bf + wt)) a _ (by omega) (by omega)) ?_
 rintro _ w18 ⟨rfl, u19⟩ zu19
 refine go ?_
 refine t_ariW rfl rfl rfl rfl rfl (by omega) ?_
 refine go ?_
 refine x_s fun w24 sw24 B26 u25 => ?_
 refine go ?_
 refine t_conv underlying116 underlying3 rfl rfl rfl (IntWalk.i64_in _ (by omega)) ?_
 refine go ?_
 refine f_1 results47 ?_
 exact ⟨rfl, B26, u_d⟩

theorem split_c (n : Int) (ws : List Int) (aw : Option Addr) (bw ow cw : Nat) (w0 : World) (hs : Sl encI 1 w0 aw bw ow ws) (hl : ws.length ≤ 60) (hws : ∀ x ∈ ws, 0 ≤ x) (hn : 0 ≤ n ∧ n ≤ 4294967295) (hpos : 0 < (preS ws ws.length)) (hle : (preS ws ws.length) ≤ 4294967295) :
    CallsV Tryz.prog 24 [.int .i64 n, .slice aw ws.length cw] w0 (fun v w' => (∃ ao g cp, v = .slice ao (List.length (spA n (preS ws ws.length) ws ws.length)) cp ∧ Sl encI 1 w' ao g 0 (spA n (preS ws ws.length) ws ws.length) ∧ (0 < ws.length → w0.heap.size ≤ g)) ∧ Ext w0 w') := by
 have hwB : ∀ x ∈ ws, 0 ≤ x ∧ x ≤ 100000000000000 := fun x hx => by
   obtain ⟨i, hi, rfl⟩ := List.getElem_of_mem hx
   have h1 := preS_up hws (j := i + 1) (k := ws.length) (by omega) (Nat.le_refl _)
   have h2 := preS_up hws (j := i) (k := i) (Nat.le_refl _) (by omega)
   rw [show preS ws (i + 1) = preS ws i + nth ws i from rfl, nth_eq hi] at h1
   have := hws _ hx
   omega
 refine f_n func24 ?_
 refine go ?_
 refine t_conv underlying3 underlying116 rfl rfl rfl (IntWalk.u64_in _ (by omega)) ?_
 refine go ?_
 refine x_c func23 rfl rfl (asum_c ws aw bw ow cw _ hs (by omega) hwB) ?_
 rintro _ w4 ⟨rfl, u5⟩ zu5
 refine t_conv underlying3 underlying116 rfl rfl rfl (IntWalk.u64_in _ (by omega)) ?_
 refine go ?_
 refine x_b fun bk8 w9 ebk8 sbk8 B10 u11 => ?_
 refine go ?_
 refine t_mkfunc (vs := [.pointer (some ⟨bk8, 0, none⟩)]) (us := []) rfl rfl rfl rfl ?_
 refine go ?_
 have B16 : Blk w9 bk8 118 [.int .u64 n, .int .u64 (preS ws ws.length), .int .u64 (preS ws 0), .int .u64 (n * (preS ws 0) / (preS ws ws.length))] := by
   have e : ([.int .u64 n, .int .u64 (preS ws ws.length), .int .u64 0, .int .u64 0] : List Value) = [.int .u64 n, .int .u64 (preS ws ws.length), .int .u64 (preS ws 0), .int .u64 (n * (preS ws 0) / (preS ws ws.length))] := (by rw [show preS ws 0 = 0 from rfl, Int.mul_zero, Int.zero_ediv])
   rw [← e]; exact B10
 refine x_l4 (fun i => i = bk8 ∨ w9.heap.size ≤ i) [6, 18, 19] (fun (k : Nat) (ao : Option Addr) (gq : Nat) (cq : Nat) => [(4, .slice ao ((spA n (preS ws ws.length) ws k).length) cq), (20, .int .i64 (k : Int))]) (fun k ao gq cq w => Blk w bk8 118 [.int .u64 n, .int .u64 (preS ws ws.length), .int .u64 (preS ws k), .int .u64 (n * (preS ws k) / (preS ws ws.length))] ∧ (k ≤ ws.length) ∧ (Acc encI 1 3 w9.heap.size w ao gq cq (spA n (preS ws ws.length) ws k))) (fun k ao gq cq => ws.length - k) 0 none 0 0 ⟨B16, (Nat.zero_le _), (Acc.nil _ _ _ _ _ (by omega) (Nat.le_refl _))⟩ ?_
 rintro k ao gq cq w18 ⟨I20, hk, hac⟩ u19 zu19 K17 hK17
 have lt_gq := hac.lt
 have hol : (spA n (preS ws ws.length) ws k).length = k := spA_len k
 refine go ?_
 refine q_p (fun g21 => ?_) fun g21 => ?_
 ·
  have hw9 := hws _ (nth_mem (xs := ws) (i := k) (by omega))
  have hp9 := preS_up hws (j := k) (k := k + 1) (by omega) (by omega)
  have hp8 := preS_up hws (j := k + 1) (k := ws.length) (by omega) (Nat.le_refl _)
  rw [show preS ws (k + 1) = preS ws k + nth ws k from rfl] at hp9 hp8
  have hsb := sp_bd (n := n) hn.1 hpos hp9.1 hp9.2 hp8.2
  refine go ?_
  refine g_i k (hs.keep ((((Upd.refl (fun _ => False) w0).nx u5).nx u11).next u19 (fun i hi (h : i = bk8 ∨ w9.heap.size ≤ i) => show False by first | omega | assumption)) (fun _ h => h)) (fun _ => ?_)
  refine go ?_
  refine t_call own47 rfl rfl rfl rfl (next_c bk8 n (preS ws ws.length) (preS ws k) (n * (preS ws k) / (preS ws ws.length)) (nth ws k) _ I20 (by omega) (by omega) (by omega) (by omega) (by omega) (by omega) (by omega)) (fun v28 w29 r31 => ?_)
  obtain ⟨rfl, hBx27, u30⟩ := r31
  have zu30 := u30.size
  refine x_l fun bk33 w34 ebk33 sbk33 B35 u36 => ?_
  have D38 := ((hac.keep u30 (fun hb => show ¬ (gq = bk8) by first | omega | assumption)).keep u36 (fun _ h => h))
  refine t_append (z := .int .i64 0) (bytes := 8) (k := 1) (base := w9.heap.size) (spK n (preS ws ws.length) ws k) underlying32 (by kernel_rfl) rfl (by decide) (fun _ => rfl) (by intro x; simp [encI, Value.oneCell']) rfl rfl rfl rfl D38 B35 (by omega) (by omega) (by decide) (fun ao39 gb40 cp41 w42 A43 u44 gegb40 lngb40 => ?_)
  have zu44 := u44.size
  have lt_gb40 := A43.lt
  refine go ?_
  have B46 := ((hBx27.kx u36).keep u44 (by omega))
  exact hK17 (k + 1) ao39 gb40 cp41 ⟨B46, (by omega), A43⟩ (hu := (((u19.next u30 (fun i hi (h : i = bk8) => show i = bk8 ∨ w9.heap.size ≤ i by first | omega | assumption)).nx u36).next u44 (fun i hi (h : (i = gq ∧ w9.heap.size ≤ i)) => show i = bk8 ∨ w9.heap.size ≤ i by first | omega | assumption)))
 refine go ?_
 refine f_1 results24 ?_
 obtain rfl : k = ws.length := by omega
 have hA9 := hac
 exact ⟨⟨_, _, _, rfl, hA9.sl (fun _ => rfl), fun h9 => by have := hA9.ge (by omega); omega⟩, u_d⟩

theorem Split_c (n : Int) (ws : List Int) (aw : Option Addr) (bw ow cw : Nat) (w0 : World) (hs : Sl encI 1 w0 aw bw ow ws) (hl : ws.length ≤ 60) (hws : ∀ x ∈ ws, 0 ≤ x) (hn : 0 ≤ n ∧ n ≤ 4294967295) (hpos : 0 < (preS ws ws.length)) (hle : (preS ws ws.length) ≤ 4294967295) :
    CallsV Tryz.prog 7 [.int .i64 n, .slice aw ws.length cw] w0 (fun v w' => (∃ ao g cp, v = .tuple #[.slice ao (List.length (spA n (preS ws ws.length) ws ws.length)) cp, .int .i64 0] ∧ Sl encI 1 w' ao g 0 (spA n (preS ws ws.length) ws ws.length) ∧ (0 < ws.length → w0.heap.size ≤ g)) ∧ Ext w0 w') := by
 have hwB : ∀ x ∈ ws, 0 ≤ x ∧ x ≤ 100000000000000 := fun x hx => by
   obtain ⟨i, hi, rfl⟩ := List.getElem_of_mem hx
   have h1 := preS_up hws (j := i + 1) (k := ws.length) (by omega) (Nat.le_refl _)
   have h2 := preS_up hws (j := i) (k := i) (Nat.le_refl _) (by omega)
   rw [show preS ws (i + 1) = preS ws i + nth ws i from rfl, nth_eq hi] at h1
   have := hws _ hx
   omega
 refine f_n func7 ?_
 iterate 13 refine st1 ?_
 refine t_same 9 (v := .bool false) rfl (congrArg Value.bool (decide_eq_false (by omega))) ?_
 refine go ?_
 refine x_l fun bk5 w6 ebk5 sbk5 B7 u8 => ?_
 refine x_c func22 rfl rfl (awithin1_v 0 100000000000000 n _ _ _ B7) ?_
 rintro _ w11 ⟨rfl, u12⟩ zu12
 have E14 := Sc.mk (((Upd.refl (fun _ => False) w0).nx u8).nx u12)
 refine st1 ?_
 refine t_same 14 (v := .bool false) rfl (congrArg Value.bool (decide_eq_false (fun h => h (by omega)))) ?_
 refine go ?_
 refine x_c func22 rfl rfl (awithin_c 0 100000000000000 ws aw bw ow cw _ (hs.keep E14.u (fun _ h => h)) (by omega)) ?_
 rintro _ w17 ⟨rfl, u18⟩ zu18
 have E20 := Sc.mk (E14.u.nx u18)
 refine st1 ?_
 refine t_same 18 (v := .bool false) rfl (congrArg Value.bool (decide_eq_false (fun h => h hwB))) ?_
 refine go ?_
 refine x_c func23 rfl rfl (asum_c ws aw bw ow cw _ (hs.keep E20.u (fun _ h => h)) (by omega) hwB) ?_
 rintro _ w22 ⟨rfl, u23⟩ zu23
 refine st1 ?_
 refine t_same 22 (v := .bool false) rfl (congrArg Value.bool (decide_eq_false (by omega))) ?_
 refine go ?_
 refine x_c func24 rfl rfl (split_c n ws aw bw ow cw _ (hs.keep (E20.u.nx u23) (fun _ h => h)) hl hws hn hpos hle) ?_
 rintro _ w29 ⟨⟨aS, gS, cS, rfl, hS, hG⟩, u30⟩ zu30
 refine go ?_
 refine f_ret2 (v1 := .slice aS (List.length (spA n (preS ws ws.length) ws ws.length)) cS) (v2 := .int .i64 0) results7 rfl rfl ?_
 exact ⟨⟨_, _, _, rfl, hS, fun h9 => by have := hG h9; omega⟩, u_d⟩

end Go.Proofs.YtjkpkbdoljjeiaaGreat
namespace Go.Proofs.YtjkpkbdoljjeiaaGreat
open Go Go.RowKit Go.Proofs.Tryz

def encIt (x : It) : List Value := [.int .i64 x.z, .int .i64 x.v, .int .i64 x.d, .int .i64 x.s, .int .i64 x.e]
def encNt (x : Nt) : List Value := [.int .i64 x.k, .int .i64 x.i, .int .i64 x.a]
def okIt (x : It) : Prop := (0 ≤ x.v ∧ x.v ≤ 100000000000000) ∧ (0 ≤ x.d ∧ x.d ≤ 100000000000000) ∧ (0 ≤ x.s ∧ x.s ≤ 100000000000000) ∧ (0 ≤ x.e ∧ x.e ≤ 100000000000000)
theorem worth_c (x : It) (w0 : World) (hx : okIt x) :
    CallsV Tryz.prog 28 [.agg #[.int .i64 x.z, .int .i64 x.v, .int .i64 x.d, .int .i64 x.s, .int .i64 x.e]] w0 (fun v w' => v = .int .i64 (x.v - x.d) ∧ Ext w0 w') := by
 unfold okIt at hx
 refine f_n func28 ?_
 refine go ?_
 refine x_b fun bk2 w3 ebk2 sbk2 B4 u5 => ?_
 refine go ?_
 refine t_indexArr (j := 1) (1) underlying90 sizeOf3 rfl rfl rfl rfl rfl (by decide) rfl ?_
 refine go ?_
 refine t_indexArr (j := 2) (2) underlying90 sizeOf3 rfl rfl rfl rfl rfl (by decide) rfl ?_
 refine go ?_
 refine f_1 results28 ?_
 exact ⟨rfl, u_d⟩

theorem saved_c (x : It) (w0 : World) (hx : okIt x) :
    CallsV Tryz.prog 27 [.agg #[.int .i64 x.z, .int .i64 x.v, .int .i64 x.d, .int .i64 x.s, .int .i64 x.e]] w0 (fun v w' => v = .int .i64 (x.v - x.d - x.s) ∧ Ext w0 w') := by
 have hx0 := hx
 unfold okIt at hx
 refine f_n func27 ?_
 refine go ?_
 refine x_b fun bk2 w3 ebk2 sbk2 B4 u5 => ?_
 refine go ?_
 refine c_drawnM follows (fun _ => False) (OTl [0, 4, 6, 3, 8, 10]) (by kernel_rfl) fun w8 u9 => ?_
 have zu9 := u9.size
 refine go ?_
 refine y_indexArr (j := 3) (3) underlying90 sizeOf3 rfl rfl rfl rfl rfl (by decide) rfl ?_
 refine go ?_
 refine x_c func28 rfl rfl (worth_c x _ hx0) ?_
 rintro _ w12 ⟨rfl, u13⟩ zu13
 refine go ?_
 refine f_1 results27 ?_
 exact ⟨rfl, u_d⟩

theorem good_c (x : It) (w0 : World) (hx : okIt x) :
    CallsV Tryz.prog 30 [.agg #[.int .i64 x.z, .int .i64 x.v, .int .i64 x.d, .int .i64 x.s, .int .i64 x.e], .int .i64 0] w0 (fun v w' => v = .int .i64 (x.s + x.e) ∧ Ext w0 w') := by
 unfold okIt at hx
 refine f_n func30 ?_
 refine go ?_
 refine x_b fun bk2 w3 ebk2 sbk2 B4 u5 => ?_
 refine go ?_
 refine t_indexArr (j := 4) (4) underlying90 sizeOf3 rfl rfl rfl rfl rfl (by decide) rfl ?_
 refine go ?_
 refine t_indexArr (j := 3) (3) underlying90 sizeOf3 rfl rfl rfl rfl rfl (by decide) rfl ?_
 refine go ?_
 refine t_quo rfl rfl rfl rfl (by omega) (by omega) ?_
 refine st1 ?_
 refine t_same 16 (v := .int .i64 (x.s + x.e)) rfl (congrArg (Value.int .i64) (by omega)) ?_
 refine go ?_
 refine f_1 results30 ?_
 exact ⟨rfl, u_d⟩

theorem good2_c (x : It) (bc : Nat) (w0 : World) (hx : okIt x) (hc : Blk w0 bc 3 [.int .i64 0]) :
    CallsV Tryz.prog 29 [.agg #[.int .i64 x.z, .int .i64 x.v, .int .i64 x.d, .int .i64 x.s, .int .i64 x.e], .pointer (some ⟨bc, 0, none⟩)] w0 (fun v w' => v = .int .i64 (x.s + x.e) ∧ Ext w0 w') := by
 refine f_n func29 ?_
 refine go ?_
 refine x_b fun bk2 w3 ebk2 sbk2 B4 u5 => ?_
 refine go ?_
 refine x_c func30 rfl rfl (good_c x _ hx) ?_
 rintro _ w9 ⟨rfl, u10⟩ zu10
 refine go ?_
 refine f_1 results29 ?_
 exact ⟨rfl, u_d⟩

theorem of_saved_c (its : List It) (al : Option Addr) (bl ol cl bx : Nat) (V : List Int) (w0 : World) (hbx : Blk w0 bx 85 [.slice al its.length cl]) (hs : Sl encIt 5 w0 al bl ol its) (hl : its.length ≤ 100) (hok : ∀ x ∈ its, okIt x) (hV : (its.map fun x : It => (x.v - x.d - x.s)) = V) :
    CallsV Tryz.prog 26 [.func (.func 27) #[] #[], .pointer (some ⟨bx, 0, none⟩)] w0 (fun v w' => (∃ ao g cp, v = .slice ao (List.length V) cp ∧ Sl encI 1 w' ao g 0 V) ∧ Ext w0 w') := by
 have hbx9 := hbx.lt
 refine f_n func26 ?_
 refine go ?_
 refine x_l4 (fun i => w0.heap.size ≤ i) [0, 6, 7] (fun (k : Nat) (ao : Option Addr) (gq : Nat) (cq : Nat) => [(3, .slice ao (((its.take k).map fun x : It => (x.v - x.d - x.s)).length) cq), (8, .int .i64 (k : Int))]) (fun k ao gq cq w => (k ≤ its.length) ∧ (Acc encI 1 3 w0.heap.size w ao gq cq ((its.take k).map fun x : It => (x.v - x.d - x.s)))) (fun k ao gq cq => its.length - k) 0 none 0 0 ⟨(Nat.zero_le _), (Acc.nil _ _ _ _ _ (by omega) (Nat.le_refl _))⟩ ?_
 rintro k ao gq cq w5 ⟨hk, hac⟩ u6 zu6 K4 hK4
 have lt_gq := hac.lt
 have hol : ((its.take k).map fun x : It => (x.v - x.d - x.s)).length = k := by rw [List.length_map, List.length_take]; omega
 refine go ?_
 refine q_p (fun g9 => ?_) fun g9 => ?_
 ·
  have hst9 : ((its.take (k + 1)).map fun x : It => (x.v - x.d - x.s)) = ((its.take k).map fun x : It => (x.v - x.d - x.s)) ++ [((nth its k).v - (nth its k).d - (nth its k).s)] := by rw [take_nth (by omega), List.map_append]; rfl
  have hok9 := hok _ (nth_mem (xs := its) (i := k) (by omega))
  unfold okIt at hok9
  refine go ?_
  refine g_i k (hs.keep ((Upd.refl (fun _ => False) w0).next u6 (fun i hi (h : w0.heap.size ≤ i) => show False by first | omega | assumption)) (fun _ h => h)) (fun _ => ?_)
  refine go ?_
  refine x_n fun bk13 w14 ebk13 sbk13 B15 u16 => ?_
  refine x_s fun w18 sw18 B20 u19 => ?_
  refine go ?_
  refine x_c func27 rfl rfl (saved_c (nth its k) _ (hok _ (nth_mem (by omega))) ) ?_
  rintro _ w23 ⟨rfl, u24⟩ zu24
  refine x_l fun bk27 w28 ebk27 sbk27 B29 u30 => ?_
  have D32 := ((((hac.keep u16 (fun _ h => h)).keep u19 (fun hb => show ¬ (gq = bk13) by first | omega | assumption)).keep u24 (fun _ h => h)).keep u30 (fun _ h => h))
  refine t_append (z := .int .i64 0) (bytes := 8) (k := 1) (base := w0.heap.size) ((nth its k).v - (nth its k).d - (nth its k).s) underlying32 (by kernel_rfl) rfl (by decide) (fun _ => rfl) (by intro x; simp [encI, Value.oneCell']) rfl rfl rfl rfl D32 B29 (by omega) (by omega) (by decide) (fun ao33 gb34 cp35 w36 A37 u38 gegb34 lngb34 => ?_)
  have zu38 := u38.size
  have lt_gb34 := A37.lt
  refine go ?_
  exact hK4 (k + 1) ao33 gb34 cp35 ⟨(by omega), (by rw [hst9]; exact A37)⟩ (hs := by exact ⟨(by first | (rw [hst9]; rfl) | rfl), rfl, rfl, rfl, rfl, trivial⟩) (hu := (((((u6.nx u16).next u19 (fun i hi (h : i = bk13) => show w0.heap.size ≤ i by first | omega | assumption)).nx u24).nx u30).next u38 (fun i hi (h : (i = gq ∧ w0.heap.size ≤ i)) => show w0.heap.size ≤ i by first | omega | assumption)))
 refine go ?_
 refine f_1 results26 ?_
 have hA9 := hac
 rw [show ((its.take k).map fun x : It => (x.v - x.d - x.s)) = (its.map fun x : It => (x.v - x.d - x.s)) by rw [List.take_of_length_le (by omega)]] at hA9 ⊢
 rw [hV] at hA9 ⊢
 exact ⟨⟨_, _, _, rfl, hA9.sl (fun _ => rfl)⟩, u_d⟩

theorem of_worth_c (its : List It) (al : Option Addr) (bl ol cl bx : Nat) (V : List Int) (w0 : World) (hbx : Blk w0 bx 85 [.slice al its.length cl]) (hs : Sl encIt 5 w0 al bl ol its) (hl : its.length ≤ 100) (hok : ∀ x ∈ its, okIt x) (hV : (its.map fun x : It => (x.v - x.d)) = V) :
    CallsV Tryz.prog 26 [.func (.func 28) #[] #[], .pointer (some ⟨bx, 0, none⟩)] w0 (fun v w' => (∃ ao g cp, v = .slice ao (List.length V) cp ∧ Sl encI 1 w' ao g 0 V) ∧ Ext w0 w') := by
 have hbx9 := hbx.lt
 refine f_n func26 ?_
 refine go ?_
 refine x_l4 (fun i => w0.heap.size ≤ i) [0, 6, 7] (fun (k : Nat) (ao : Option Addr) (gq : Nat) (cq : Nat) => [(3, .slice ao (((its.take k).map fun x : It => (x.v - x.d)).length) cq), (8, .int .i64 (k : Int))]) (fun k ao gq cq w => (k ≤ its.length) ∧ (Acc encI 1 3 w0.heap.size w ao gq cq ((its.take k).map fun x : It => (x.v - x.d)))) (fun k ao gq cq => its.length - k) 0 none 0 0 ⟨(Nat.zero_le _), (Acc.nil _ _ _ _ _ (by omega) (Nat.le_refl _))⟩ ?_
 rintro k ao gq cq w5 ⟨hk, hac⟩ u6 zu6 K4 hK4
 have lt_gq := hac.lt
 have hol : ((its.take k).map fun x : It => (x.v - x.d)).length = k := by rw [List.length_map, List.length_take]; omega
 refine go ?_
 refine q_p (fun g9 => ?_) fun g9 => ?_
 ·
  have hst9 : ((its.take (k + 1)).map fun x : It => (x.v - x.d)) = ((its.take k).map fun x : It => (x.v - x.d)) ++ [((nth its k).v - (nth its k).d)] := by rw [take_nth (by omega), List.map_append]; rfl
  have hok9 := hok _ (nth_mem (xs := its) (i := k) (by omega))
  unfold okIt at hok9
  refine go ?_
  refine g_i k (hs.keep ((Upd.refl (fun _ => False) w0).next u6 (fun i hi (h : w0.heap.size ≤ i) => show False by first | omega | assumption)) (fun _ h => h)) (fun _ => ?_)
  refine go ?_
  refine x_n fun bk13 w14 ebk13 sbk13 B15 u16 => ?_
  refine x_s fun w18 sw18 B20 u19 => ?_
  refine go ?_
  refine x_c func28 rfl rfl (worth_c (nth its k) _ (hok _ (nth_mem (by omega))) ) ?_
  rintro _ w23 ⟨rfl, u24⟩ zu24
  refine x_l fun bk27 w28 ebk27 sbk27 B29 u30 => ?_
  have D32 := ((((hac.keep u16 (fun _ h => h)).keep u19 (fun hb => show ¬ (gq = bk13) by first | omega | assumption)).keep u24 (fun _ h => h)).keep u30 (fun _ h => h))
  refine t_append (z := .int .i64 0) (bytes := 8) (k := 1) (base := w0.heap.size) ((nth its k).v - (nth its k).d) underlying32 (by kernel_rfl) rfl (by decide) (fun _ => rfl) (by intro x; simp [encI, Value.oneCell']) rfl rfl rfl rfl D32 B29 (by omega) (by omega) (by decide) (fun ao33 gb34 cp35 w36 A37 u38 gegb34 lngb34 => ?_)
  have zu38 := u38.size
  have lt_gb34 := A37.lt
  refine go ?_
  exact hK4 (k + 1) ao33 gb34 cp35 ⟨(by omega), (by rw [hst9]; exact A37)⟩ (hs := by exact ⟨(by first | (rw [hst9]; rfl) | rfl), rfl, rfl, rfl, rfl, trivial⟩) (hu := (((((u6.nx u16).next u19 (fun i hi (h : i = bk13) => show w0.heap.size ≤ i by first | omega | assumption)).nx u24).nx u30).next u38 (fun i hi (h : (i = gq ∧ w0.heap.size ≤ i)) => show w0.heap.size ≤ i by first | omega | assumption)))
 refine go ?_
 refine f_1 results26 ?_
 have hA9 := hac
 rw [show ((its.take k).map fun x : It => (x.v - x.d)) = (its.map fun x : It => (x.v - x.d)) by rw [List.take_of_length_le (by omega)]] at hA9 ⊢
 rw [hV] at hA9 ⊢
 exact ⟨⟨_, _, _, rfl, hA9.sl (fun _ => rfl)⟩, u_d⟩

theorem of_good_c (its : List It) (al : Option Addr) (bl ol cl bx : Nat) (V : List Int) (bc : Nat) (w0 : World) (hbx : Blk w0 bx 85 [.slice al its.length cl]) (hs : Sl encIt 5 w0 al bl ol its) (hl : its.length ≤ 100) (hok : ∀ x ∈ its, okIt x) (hV : (its.map fun x : It => (x.s + x.e)) = V) (hbc : Blk w0 bc 3 [.int .i64 0]) :
    CallsV Tryz.prog 26 [.func (.func 29) #[] #[.pointer (some ⟨bc, 0, none⟩)], .pointer (some ⟨bx, 0, none⟩)] w0 (fun v w' => (∃ ao g cp, v = .slice ao (List.length V) cp ∧ Sl encI 1 w' ao g 0 V) ∧ Ext w0 w') := by
 have hbx9 := hbx.lt
 have hbc9 := hbc.lt
 refine f_n func26 ?_
 refine go ?_
 refine x_l4 (fun i => w0.heap.size ≤ i) [0, 6, 7] (fun (k : Nat) (ao : Option Addr) (gq : Nat) (cq : Nat) => [(3, .slice ao (((its.take k).map fun x : It => (x.s + x.e)).length) cq), (8, .int .i64 (k : Int))]) (fun k ao gq cq w => (k ≤ its.length) ∧ (Acc encI 1 3 w0.heap.size w ao gq cq ((its.take k).map fun x : It => (x.s + x.e)))) (fun k ao gq cq => its.length - k) 0 none 0 0 ⟨(Nat.zero_le _), (Acc.nil _ _ _ _ _ (by omega) (Nat.le_refl _))⟩ ?_
 rintro k ao gq cq w5 ⟨hk, hac⟩ u6 zu6 K4 hK4
 have lt_gq := hac.lt
 have hol : ((its.take k).map fun x : It => (x.s + x.e)).length = k := by rw [List.length_map, List.length_take]; omega
 refine go ?_
 refine q_p (fun g9 => ?_) fun g9 => ?_
 ·
  have hst9 : ((its.take (k + 1)).map fun x : It => (x.s + x.e)) = ((its.take k).map fun x : It => (x.s + x.e)) ++ [((nth its k).s + (nth its k).e)] := by rw [take_nth (by omega), List.map_append]; rfl
  have hok9 := hok _ (nth_mem (xs := its) (i := k) (by omega))
  unfold okIt at hok9
  refine go ?_
  refine g_i k (hs.keep ((Upd.refl (fun _ => False) w0).next u6 (fun i hi (h : w0.heap.size ≤ i) => show False by first | omega | assumption)) (fun _ h => h)) (fun _ => ?_)
  refine go ?_
  refine x_n fun bk13 w14 ebk13 sbk13 B15 u16 => ?_
  refine x_s fun w18 sw18 B20 u19 => ?_
  refine go ?_
  have B22 := (((hbc.keep u6 (show ¬ (w0.heap.size ≤ bc) by first | omega | assumption)).kx u16).keep u19 (by omega))
  refine x_c func29 rfl rfl (good2_c (nth its k) bc _ (hok _ (nth_mem (by omega))) B22) ?_
  rintro _ w24 ⟨rfl, u25⟩ zu25
  refine x_l fun bk28 w29 ebk28 sbk28 B30 u31 => ?_
  have D33 := ((((hac.keep u16 (fun _ h => h)).keep u19 (fun hb => show ¬ (gq = bk13) by first | omega | assumption)).keep u25 (fun _ h => h)).keep u31 (fun _ h => h))
  refine t_append (z := .int .i64 0) (bytes := 8) (k := 1) (base := w0.heap.size) ((nth its k).s + (nth its k).e) underlying32 (by kernel_rfl) rfl (by decide) (fun _ => rfl) (by intro x; simp [encI, Value.oneCell']) rfl rfl rfl rfl D33 B30 (by omega) (by omega) (by decide) (fun ao34 gb35 cp36 w37 A38 u39 gegb35 lngb35 => ?_)
  have zu39 := u39.size
  have lt_gb35 := A38.lt
  refine go ?_
  exact hK4 (k + 1) ao34 gb35 cp36 ⟨(by omega), (by rw [hst9]; exact A38)⟩ (hs := by exact ⟨(by first | (rw [hst9]; rfl) | rfl), rfl, rfl, rfl, rfl, trivial⟩) (hu := (((((u6.nx u16).next u19 (fun i hi (h : i = bk13) => show w0.heap.size ≤ i by first | omega | assumption)).nx u25).nx u31).next u39 (fun i hi (h : (i = gq ∧ w0.heap.size ≤ i)) => show w0.heap.size ≤ i by first | omega | assumption)))
 refine go ?_
 refine f_1 results26 ?_
 have hA9 := hac
 rw [show ((its.take k).map fun x : It => (x.s + x.e)) = (its.map fun x : It => (x.s + x.e)) by rw [List.take_of_length_le (by omega)]] at hA9 ⊢
 rw [hV] at hA9 ⊢
 exact ⟨⟨_, _, _, rfl, hA9.sl (fun _ => rfl)⟩, u_d⟩

theorem min_c (xs : List Int) (ao : Option Addr) (b o cap : Nat) (w0 : World) (hs : Sl encI 1 w0 ao b o xs) (hl : xs.length ≤ 100) (hp : 1 ≤ xs.length) (hb : ∀ x ∈ xs, 0 ≤ x) :
    CallsV Tryz.prog 31 [.slice ao xs.length cap] w0 (fun v w' => (∃ m : Int, v = .int .i64 m ∧ 0 ≤ m) ∧ Ext w0 w') := by
 refine f_n func31 ?_
 iterate 11 refine st1 ?_
 refine t_same 7 (v := .bool false) rfl (congrArg Value.bool (decide_eq_false (by omega))) ?_
 refine go ?_
 refine g_i 0 hs (fun _ => ?_)
 refine go ?_
 refine x_l2 (fun _ => False) [0] (fun (k : Nat) (m : Int) => [(3, .int .i64 m), (4, .int .i64 (k : Int))]) (fun k m w => (1 ≤ k ∧ k ≤ xs.length) ∧ (0 ≤ m)) (fun k m => xs.length - k) 1 (nth xs 0) ⟨(by omega), (hb _ (nth_mem (by omega)))⟩ ?_
 rintro k m w9 ⟨hk, hm⟩ u10 zu10 K8 hK8
 refine go ?_
 refine q_p (fun g15 => ?_) fun g15 => ?_
 ·
  have hx9 := hb _ (nth_mem (xs := xs) (i := k) (by omega))
  refine go ?_
  refine g_i k (hs.keep ((Upd.refl (fun _ => False) w0).nx u10) (fun _ h => h)) (fun _ => ?_)
  refine go ?_
  refine t_min rfl rfl rfl rfl ?_
  refine go ?_
  exact hK8 (k + 1) (min m (nth xs k)) ⟨(by omega), (by omega)⟩
 refine go ?_
 refine f_1 results31 ?_
 exact ⟨⟨_, rfl, hm⟩, u_d⟩

end Go.Proofs.YtjkpkbdoljjeiaaGreat
namespace Go.Proofs.YtjkpkbdoljjeiaaGreat
open Go Go.RowKit
theorem made_flat {α : Type} [Inhabited α] {enc : α → List Value} {k : Nat} (hk0 : 0 < k) (hk : ∀ x, (enc x).length = k) (x0 : α) (n : Nat) : madeCells (enc x0).toArray (n * k) = ((List.replicate n x0).flatMap enc).toArray := by
  apply Array.ext
  · have := flatMap_len hk (List.replicate n x0)
    simp only [List.size_toArray, this, List.length_replicate]; simp [madeCells]
  · intro i h1 h2
    have hi : i < n * k := by simpa [madeCells] using h1
    have hq : i / k < n := (Nat.div_lt_iff_lt_mul hk0).2 hi
    have hm : i % k < k := Nat.mod_lt _ hk0
    have hlt : i % k < (enc x0).length := by rw [hk]; exact hm
    have h3 := flatMap_at hk (List.replicate n x0) (i / k) (i % k) ((enc x0)[i % k]) (by simpa using hq) (by
      rw [show nth (List.replicate n x0) (i / k) = x0 by simp [nth, List.getD_eq_getElem?_getD, hq]]
      exact List.getElem?_eq_getElem hlt)
    rw [show i / k * k + i % k = i from Nat.div_add_mod' i k] at h3
    have h4 : (madeCells (enc x0).toArray (n * k))[i] = (enc x0)[i % k] := by
      simp only [madeCells, Array.getElem_map, Array.getElem_range, List.size_toArray, hk]
      rw [getElem!_pos _ _ (by rw [List.size_toArray]; exact hlt)]
      simp
    rw [h4]
    have h5 : ((List.replicate n x0).flatMap enc)[i]'(by simpa using h2) = (enc x0)[i % k] := by
      rw [List.getElem_eq_iff]; exact h3
    simpa using h5.symm
section
variable {rd : Option Nat} {P : Program} {ops : Array Oper} {Q : Exit → Act → World → Prop} {N : Nat} {ds : List Deferred} {rest : List Oper} {L : Slots} {w : World}
variable {d : Nat} {ty : TypeId} {pos : String} {aft : Array Edge} {g : Option (Nat × Bool)}
/-- make([]E, n). -/
theorem t_makeN {α : Type} [Inhabited α] {enc : α → List Value} {k : Nat} {t e : TypeId} {x y : Operand} {n bytes : Nat} {m : Int} {z : Value} (x0 : α) (hu : P.underlying t = some (.slice e)) (hi : (P.info? e).map (fun i => (i.zero, i.size, i.bytes)) = some (some z, k, bytes)) (hz : z.cells = (enc x0).toArray) (hk0 : 0 < k) (hk : ∀ x, (enc x).length = k) (hb : bytes ≤ 1000)
    (hg : grd ops L g = true) (hN : Nat.blt d N = true) (hx : ev L x = some (.int .i64 m)) (hy : ev L y = some (.int .i64 m)) (em : m = (n : Int)) (hn : n ≤ 1000000)
    (h : ∀ b w', b = w.heap.size → w'.heap.size = w.heap.size + 1 → Acc enc k e b w' (some ⟨b, 0, none⟩) b n (List.replicate n x0) → Ext w w' → WL rd P ops Q N ds rest ((d, .slice (some ⟨b, 0, none⟩) n n) :: L) w') :
    WL rd P ops Q N ds (⟨some d, .makeSlice t x y, ty, pos, aft, g⟩ :: rest) L w := by
  subst em
  obtain ⟨i, hi0, hi1, hi2, hi3⟩ := info_parts' hi
  have hbn : (bytes : Int) * (n : Int) ≤ 1000 * 1000000 := by
    have := Nat.mul_le_mul hb hn
    have h2 : ((bytes * n : Nat) : Int) ≤ ((1000 * 1000000 : Nat) : Int) := by omega
    rw [Int.natCast_mul] at h2
    omega
  have hr := run_make (P := P) w t e i z hu hi0 hi1 .i64 .i64 (n : Int) (n : Int) (by omega) (Int.le_refl _) (by rw [hi3]; omega) (by omega)
  rw [hi2, Int.toNat_natCast, hz, made_flat hk0 hk x0 n] at hr
  have hB := Blk.new w e ((List.replicate n x0).flatMap enc)
  have hA := Acc.ofBlk enc k hk hB (Nat.le_refl _) (by simpa using hn)
  rw [List.length_replicate] at hA
  exact WL.value (w' := w.alloc (.cells ((List.replicate n x0).flatMap enc).toArray e)) hg rfl hN (fun a hk => by simp [execOp, hk.ev hx, hk.ev hy, hr]) (h _ _ rfl (by simp) hA (Upd.alloc _ _))
end
end Go.Proofs.YtjkpkbdoljjeiaaGreat
