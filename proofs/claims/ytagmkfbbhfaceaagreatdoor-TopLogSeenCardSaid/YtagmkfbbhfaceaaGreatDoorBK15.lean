/-
  Part 15 of the proof: contracts and plain laws. Conditions: none.
-/
import Derived.Test.YtagmkfbbhfaceaaGreatDoorBK14
namespace Go.Proofs.YtagmkfbbhfaceaaGreatDoor
open Go Go.RowKit Go.Proofs.Tryz
set_option maxRecDepth 10000

theorem Sl.ofBlkS {α : Type} [Inhabited α] {enc : α → List Value} {k : Nat} (hk : ∀ x, (enc x).length = k) {w : World} {b : Nat} {t : TypeId} {xs : List α} (h : Blk w b t (xs.flatMap enc)) : Sl enc k w (some ⟨b, 0, none⟩) b 0 xs :=
  ⟨fun _ => rfl, fun _ => h.lt, fun i hi j v hv => by
    have h1 := flatMap_at hk xs i j v hi hv
    rw [Nat.zero_add]
    exact h.get h1⟩
/-- A clue's options in memory. -/
structure HC where
  xs : List Opt
  ao : Option Addr
  b : Nat
  o : Nat
  cap : Nat
instance : Inhabited HC := ⟨⟨default, default, default, default, default⟩⟩
def encBcl (x : Bcl) : List Value := [.int .i64 x.lo, .int .i64 x.hi]
def encOpt (x : Opt) : List Value := [.int .i64 x.k, .int .i64 x.e, .int .i64 x.c, .int .i64 x.a, .int .i64 x.lo, .int .i64 x.hi]
def encHC (h : HC) : List Value := [.slice h.ao h.xs.length h.cap]
def encLnk (x : Lnk) : List Value := [.int .i64 x.f, .int .i64 x.t, .int .i64 x.m]
def okOptP (n m : Nat) (x : Opt) : Prop := (0 ≤ x.e ∧ x.e ≤ (n : Int) - 1) ∧ (x.lo ≤ x.hi ∧ -2000000 ≤ x.lo ∧ x.hi ≤ 2000000) ∧ ((x.k = 1 ∧ (0 ≤ x.c ∧ x.c ≤ (m : Int) - 1) ∧ x.a = 0) ∨ (x.k = 2 ∧ (0 ≤ x.a ∧ x.a ≤ (n : Int) - 1) ∧ x.a ≠ x.e ∧ x.c = 0))
def optZ (zz : Nat) (h : HC) : Opt := nth h.xs zz
/-- A case in memory: each clue has one option, and all is valid. -/
structure CaM (w : World) (zz n : Nat) (cs : List Bcl) (ac : Option Addr) (bc oc : Nat) (rows : List HC) (ar : Option Addr) (br or_ : Nat) : Prop where
  c : Sl encBcl 2 w ac bc oc cs
  r : Sl encHC 1 w ar br or_ rows
  m : ∀ h ∈ rows, Sl encOpt 6 w h.ao h.b h.o h.xs ∧ (zz < h.xs.length ∧ h.xs.length ≤ 3)
  hn : 1 ≤ n ∧ n ≤ 20
  hc : cs.length ≤ 8
  hr : rows.length ≤ 20
  hb : ∀ b ∈ cs, b.lo ≤ b.hi ∧ -100000 ≤ b.lo ∧ b.hi ≤ 100000
  ho : ∀ h ∈ rows, ∀ x ∈ h.xs, okOptP n cs.length x
theorem CaM.ext {w w' : World} {zz n : Nat} {cs : List Bcl} {ac : Option Addr} {bc oc : Nat} {rows : List HC} {ar : Option Addr} {br or_ : Nat} (h : CaM w zz n cs ac bc oc rows ar br or_) (u : Ext w w') : CaM w' zz n cs ac bc oc rows ar br or_ :=
  ⟨h.c.keep u (fun _ q => q), h.r.keep u (fun _ q => q), fun x hx => ⟨(h.m x hx).1.keep u (fun _ q => q), (h.m x hx).2⟩, h.hn, h.hc, h.hr, h.hb, h.ho⟩
theorem any_noF {α : Type} (l : List α) : (l.any fun _ => false) = false := by simp
def osR (zz : Nat) (rows : List HC) : List Opt := rows.map (optZ zz)
theorem opE_succ {k : Nat} : opES (k + 1) = opES k ++ lnk2 0 (1 + (k : Int)) 0 1000000 := by unfold opES; rw [List.range_succ, List.flatMap_append]; simp [lnkE]
theorem opE_len : ∀ {k : Nat}, (opES k).length = 2 * k
  | 0 => rfl
  | k + 1 => by rw [opE_succ, List.length_append, opE_len]; show 2 * k + 2 = _; omega
theorem opC_succ {n : Nat} {cs : List Bcl} {k : Nat} : opC n cs (k + 1) = opC n cs k ++ lnk2 0 (1 + (n : Int) + (k : Int)) (-(nth cs k).hi) (-(nth cs k).lo) := by unfold opC; rw [List.range_succ, List.flatMap_append]; simp [lnkC]
theorem opC_len {n : Nat} {cs : List Bcl} : ∀ {k : Nat}, (opC n cs k).length = 2 * k
  | 0 => rfl
  | k + 1 => by rw [opC_succ, List.length_append, opC_len]; show 2 * k + 2 = _; omega
theorem lnkO_len (n : Nat) (o : Opt) : (lnkO n o).length = 2 := by unfold lnkO; split <;> rfl
theorem opO_succ {zz n : Nat} {rows : List HC} {k : Nat} (h : k < rows.length) : opO n (osR zz rows) (k + 1) = opO n (osR zz rows) k ++ lnkO n (nth (nth rows k).xs zz) := by
  unfold opO osR
  rw [← List.map_take, ← List.map_take, take_nth h, List.map_append, List.flatMap_append]; simp [optZ]
theorem opO_len {zz n : Nat} {rows : List HC} : ∀ {k : Nat}, k ≤ rows.length → (opO n (osR zz rows) k).length = 2 * k
  | 0, _ => rfl
  | k + 1, h => by rw [opO_succ (by omega), List.length_append, opO_len (by omega), lnkO_len]; omega
theorem own83 : Own Tryz.prog 83 := ⟨Tryz.f83, func83, by kernel_rfl, by kernel_rfl⟩
theorem own127 : Own Tryz.prog 127 := ⟨Tryz.f127, func127, by kernel_rfl, by kernel_rfl⟩
theorem own130 : Own Tryz.prog 130 := ⟨Tryz.f130, func130, by kernel_rfl, by kernel_rfl⟩
theorem own79 : Own Tryz.prog 79 := ⟨Tryz.f79, func79, by kernel_rfl, by kernel_rfl⟩
theorem wwithin1_c (lo hi n : Int) (b c : Nat) (t1 t2 : TypeId) (w0 : World) (hb : Blk w0 b t1 [.int .i64 lo]) (hc : Blk w0 c t2 [.int .i64 hi]) :
    CallsV Tryz.prog 83 [.int .i64 n, .pointer (some ⟨b, 0, none⟩), .pointer (some ⟨c, 0, none⟩)] w0 (fun v w' => v = .bool (out1 lo hi n) ∧ Ext w0 w') := by
 refine f_n func83 ?_
 refine go ?_
 refine t_splitp 8 rfl (fun g8 => ?_) (fun g8 => ?_)
 ·
  refine go ?_
  refine f_1 results83 ?_
  exact ⟨by simp [out1, *], u_d⟩
 refine go ?_
 refine f_1 results83 ?_
 exact ⟨by simp [out1, *], u_d⟩
theorem wwithin_c (lo hi : Int) (xs : List Int) (ao : Option Addr) (b o cap : Nat) (w0 : World) (hs : Sl encI 1 w0 ao b o xs) (hl : xs.length ≤ 1000000) :
    CallsV Tryz.prog 46 [.int .i64 lo, .int .i64 hi, .slice ao xs.length cap] w0 (fun v w' => v = .bool (decide (∀ n ∈ xs, lo ≤ n ∧ n ≤ hi)) ∧ Ext w0 w') := by
 refine f_n func46 ?_
 refine go ?_
 refine x_b fun bk2 w3 ebk2 sbk2 B4 u5 => ?_
 refine x_b fun bk7 w8 ebk7 sbk7 B9 u10 => ?_
 refine go ?_
 refine t_mkfunc (vs := []) (us := [.pointer (some ⟨bk2, 0, none⟩), .pointer (some ⟨bk7, 0, none⟩)]) rfl rfl rfl rfl ?_
 have B13 := (B4.kx u10)
 refine x_c func82 rfl rfl (containsI_c (out1 lo hi) 83 [.pointer (some ⟨bk2, 0, none⟩), .pointer (some ⟨bk7, 0, none⟩)] xs ao b o cap _ own83 (fun x _ w u => wwithin1_c lo hi x bk2 bk7 _ _ w (B13.keep u (fun h => h)) (B9.keep u (fun h => h))) (hs.keep (((Upd.refl (fun _ => False) w0).nx u5).nx u10) (fun _ h => h)) hl) ?_
 rintro _ w15 ⟨rfl, u16⟩ zu16
 refine go ?_
 refine f_1 results46 ?_
 exact ⟨by rw [not_any_out], u_d⟩
theorem ww1_t (lo hi m : Int) (b : Nat) (t : TypeId) (w : World) (h : Blk w b t [.int .i64 m]) (hr : (lo ≤ m ∧ m ≤ hi)) : CallsV Tryz.prog 46 [.int .i64 lo, .int .i64 hi, .slice (some ⟨b, 0, none⟩) 1 1] w (fun v w' => v = .bool true ∧ Ext w w') :=
  (wwithin_c lo hi [m] _ b 0 1 w (SlI.own (xs := [m]) h) (by simp)).mono fun v w' ⟨e, u⟩ => ⟨by rw [e]; simp; omega, u⟩
theorem ww2_t (lo hi m n : Int) (b : Nat) (t : TypeId) (w : World) (h : Blk w b t [.int .i64 m, .int .i64 n]) (hr : (lo ≤ m ∧ m ≤ hi) ∧ (lo ≤ n ∧ n ≤ hi)) : CallsV Tryz.prog 46 [.int .i64 lo, .int .i64 hi, .slice (some ⟨b, 0, none⟩) 2 2] w (fun v w' => v = .bool true ∧ Ext w w') :=
  (wwithin_c lo hi [m, n] _ b 0 2 w (SlI.own (xs := [m, n]) h) (by simp)).mono fun v w' ⟨e, u⟩ => ⟨by rw [e]; simp; omega, u⟩
theorem indexBc_c {α : Type} [Inhabited α] (enc : α → List Value) (hk : ∀ x, (enc x).length = 2) (p : α → Bool) (fv : FuncId) (caps : List Value) (xs : List α) (ao : Option Addr) (b o cap : Nat) (w0 : World) (ho : Own Tryz.prog fv) (hp : ∀ x ∈ xs, ∀ w, Ext w0 w → CallsV Tryz.prog fv ([.agg (enc x).toArray] ++ caps) w fun v w' => v = .bool (p x) ∧ Ext w w') (hs : Sl enc 2 w0 ao b o xs) (hl : xs.length ≤ 1000000) :
    CallsV Tryz.prog 174 [.slice ao xs.length cap, .func (.func fv) #[] (caps).toArray] w0 (fun v w' => (∃ n : Int, v = .int .i64 n ∧ decide (0 ≤ n) = xs.any p) ∧ Ext w0 w') := by
 refine f_n func174 ?_
 refine go ?_
 refine x_l1 (fun _ => False) [0, 1, 7] (fun (k : Nat) => [(8, .int .i64 (k : Int))]) (fun k w => (k ≤ xs.length) ∧ ((xs.take k).any p = false)) (fun k => xs.length - k) 0 ⟨Nat.zero_le _, (by simp)⟩ ?_
 rintro k w5 ⟨hle, hnot⟩ u6 zu6 K4 hK4
 have E7 := Sc.mk ((Upd.refl (fun _ => False) w0).nx u6)
 refine go ?_
 refine q_p (fun g9 => ?_) fun g9 => ?_
 ·
  refine go ?_
  refine g_i k (hs.keep E7.u (fun _ h => h)) (fun _ => ?_)
  refine t_loadN (vs := enc (nth xs k)) isAgg34 sizeOf34 rfl rfl rfl ((hs.keep E7.u (fun _ h => h)).at_ k (by omega)) (hk _) (t_call (fs := []) (cs := caps) ho rfl rfl rfl rfl (hp (nth xs k) (nth_mem (by omega)) _ E7.u) (fun v14 w15 r17 => ?_))
  obtain ⟨rfl, u16⟩ := r17
  have zu16 := u16.size
  refine go ?_
  refine q_b (fun g16 => ?_) fun g16 => ?_
  ·
   refine go ?_
   refine f_1 results174 ?_
   exact ⟨⟨_, rfl, any_hit (by omega) g16⟩, u_d⟩
  refine go ?_
  exact hK4 (k + 1) ⟨(by omega), (any_snoc (by omega) hnot g16)⟩
 refine go ?_
 refine f_1 results174 ?_
 exact ⟨⟨_, rfl, any_none (by omega) hnot⟩, u_d⟩
theorem containsBc_c {α : Type} [Inhabited α] (enc : α → List Value) (hk : ∀ x, (enc x).length = 2) (p : α → Bool) (fv : FuncId) (caps : List Value) (xs : List α) (ao : Option Addr) (b o cap : Nat) (w0 : World) (ho : Own Tryz.prog fv) (hp : ∀ x ∈ xs, ∀ w, Ext w0 w → CallsV Tryz.prog fv ([.agg (enc x).toArray] ++ caps) w fun v w' => v = .bool (p x) ∧ Ext w w') (hs : Sl enc 2 w0 ao b o xs) (hl : xs.length ≤ 1000000) :
    CallsV Tryz.prog 126 [.slice ao xs.length cap, .func (.func fv) #[] (caps).toArray] w0 (fun v w' => v = .bool (xs.any p) ∧ Ext w0 w') := by
 refine f_n func126 ?_
 refine go ?_
 refine x_c func174 rfl rfl (indexBc_c enc hk p fv caps xs ao b o cap _ ho hp hs hl) ?_
 rintro _ w4 ⟨⟨n, rfl, hn⟩, u5⟩ zu5
 refine go ?_
 refine f_1 results126 ?_
 exact ⟨by rw [hn], u_d⟩
theorem indexOp_c {α : Type} [Inhabited α] (enc : α → List Value) (hk : ∀ x, (enc x).length = 6) (p : α → Bool) (fv : FuncId) (caps : List Value) (xs : List α) (ao : Option Addr) (b o cap : Nat) (w0 : World) (ho : Own Tryz.prog fv) (hp : ∀ x ∈ xs, ∀ w, Ext w0 w → CallsV Tryz.prog fv ([.agg (enc x).toArray] ++ caps) w fun v w' => v = .bool (p x) ∧ Ext w w') (hs : Sl enc 6 w0 ao b o xs) (hl : xs.length ≤ 1000000) :
    CallsV Tryz.prog 175 [.slice ao xs.length cap, .func (.func fv) #[] (caps).toArray] w0 (fun v w' => (∃ n : Int, v = .int .i64 n ∧ decide (0 ≤ n) = xs.any p) ∧ Ext w0 w') := by
 refine f_n func175 ?_
 refine go ?_
 refine x_l1 (fun _ => False) [0, 1, 7] (fun (k : Nat) => [(8, .int .i64 (k : Int))]) (fun k w => (k ≤ xs.length) ∧ ((xs.take k).any p = false)) (fun k => xs.length - k) 0 ⟨Nat.zero_le _, (by simp)⟩ ?_
 rintro k w5 ⟨hle, hnot⟩ u6 zu6 K4 hK4
 have E7 := Sc.mk ((Upd.refl (fun _ => False) w0).nx u6)
 refine go ?_
 refine q_p (fun g9 => ?_) fun g9 => ?_
 ·
  refine go ?_
  refine g_i k (hs.keep E7.u (fun _ h => h)) (fun _ => ?_)
  refine t_loadN (vs := enc (nth xs k)) isAgg44 sizeOf44 rfl rfl rfl ((hs.keep E7.u (fun _ h => h)).at_ k (by omega)) (hk _) (t_call (fs := []) (cs := caps) ho rfl rfl rfl rfl (hp (nth xs k) (nth_mem (by omega)) _ E7.u) (fun v14 w15 r17 => ?_))
  obtain ⟨rfl, u16⟩ := r17
  have zu16 := u16.size
  refine go ?_
  refine q_b (fun g16 => ?_) fun g16 => ?_
  ·
   refine go ?_
   refine f_1 results175 ?_
   exact ⟨⟨_, rfl, any_hit (by omega) g16⟩, u_d⟩
  refine go ?_
  exact hK4 (k + 1) ⟨(by omega), (any_snoc (by omega) hnot g16)⟩
 refine go ?_
 refine f_1 results175 ?_
 exact ⟨⟨_, rfl, any_none (by omega) hnot⟩, u_d⟩
theorem containsOp_c {α : Type} [Inhabited α] (enc : α → List Value) (hk : ∀ x, (enc x).length = 6) (p : α → Bool) (fv : FuncId) (caps : List Value) (xs : List α) (ao : Option Addr) (b o cap : Nat) (w0 : World) (ho : Own Tryz.prog fv) (hp : ∀ x ∈ xs, ∀ w, Ext w0 w → CallsV Tryz.prog fv ([.agg (enc x).toArray] ++ caps) w fun v w' => v = .bool (p x) ∧ Ext w w') (hs : Sl enc 6 w0 ao b o xs) (hl : xs.length ≤ 1000000) :
    CallsV Tryz.prog 129 [.slice ao xs.length cap, .func (.func fv) #[] (caps).toArray] w0 (fun v w' => v = .bool (xs.any p) ∧ Ext w0 w') := by
 refine f_n func129 ?_
 refine go ?_
 refine x_c func175 rfl rfl (indexOp_c enc hk p fv caps xs ao b o cap _ ho hp hs hl) ?_
 rintro _ w4 ⟨⟨n, rfl, hn⟩, u5⟩ zu5
 refine go ?_
 refine f_1 results129 ?_
 exact ⟨by rw [hn], u_d⟩
theorem wvalid_c (lo hi m : Int) (w0 : World) (h : lo ≤ hi ∧ -m ≤ lo ∧ hi ≤ m) (hm : 0 ≤ m ∧ m ≤ 2000000) :
    CallsV Tryz.prog 128 [.agg #[.int .i64 lo, .int .i64 hi], .int .i64 m] w0 (fun v w' => v = .bool true ∧ Ext w0 w') := by
 refine f_n func128 ?_
 refine go ?_
 refine x_b fun bk2 w3 ebk2 sbk2 B4 u5 => ?_
 iterate 10 refine st1 ?_
 refine t_same 9 (v := .bool true) rfl (congrArg Value.bool (decide_eq_true (by omega))) ?_
 refine go ?_
 refine t_neg rfl rfl rfl (by omega) ?_
 refine go ?_
 refine x_l fun bk8 w9 ebk8 sbk8 B10 u11 => ?_
 refine x_c func46 rfl rfl (ww2_t (-m) m lo hi _ _ _ B10 (by omega)) ?_
 rintro _ w14 ⟨rfl, u15⟩ zu15
 refine go ?_
 refine f_1 results128 ?_
 exact ⟨rfl, u_d⟩
theorem wbad1_c (x : Bcl) (w0 : World) (h : x.lo ≤ x.hi ∧ -100000 ≤ x.lo ∧ x.hi ≤ 100000) :
    CallsV Tryz.prog 127 [.agg #[.int .i64 x.lo, .int .i64 x.hi]] w0 (fun v w' => v = .bool false ∧ Ext w0 w') := by
 refine f_n func127 ?_
 refine go ?_
 refine x_b fun bk2 w3 ebk2 sbk2 B4 u5 => ?_
 refine go ?_
 refine x_c func128 rfl rfl (wvalid_c x.lo x.hi 100000 _ (by omega) (by omega)) ?_
 rintro _ w9 ⟨rfl, u10⟩ zu10
 refine go ?_
 refine f_1 results127 ?_
 exact ⟨rfl, u_d⟩
theorem isOpt_c (n m q : Nat) (ac ar : Option Addr) (cc cr : Nat) (x : Opt) (w0 : World) (hx : okOptP n m x) (hn : 1 ≤ n ∧ n ≤ 20) (hm : m ≤ 8) :
    CallsV Tryz.prog 131 [.agg #[.int .i64 (n : Int), .slice ac m cc, .slice ar q cr], .agg #[.int .i64 x.k, .int .i64 x.e, .int .i64 x.c, .int .i64 x.a, .int .i64 x.lo, .int .i64 x.hi]] w0 (fun v w' => v = .bool true ∧ Ext w0 w') := by
 unfold okOptP at hx
 refine f_n func131 ?_
 refine go ?_
 refine x_b fun bk2 w3 ebk2 sbk2 B4 u5 => ?_
 refine x_b fun bk7 w8 ebk7 sbk7 B9 u10 => ?_
 refine go ?_
 refine x_l fun bk14 w15 ebk14 sbk14 B16 u17 => ?_
 refine x_c func46 rfl rfl (ww1_t 0 ((n : Int) - 1) x.e _ _ _ B16 (by omega)) ?_
 rintro _ w20 ⟨rfl, u21⟩ zu21
 refine go ?_
 refine x_c func128 rfl rfl (wvalid_c x.lo x.hi 2000000 _ (by omega) (by omega)) ?_
 rintro _ w25 ⟨rfl, u26⟩ zu26
 refine go ?_
 refine q_p (fun g21 => ?_) fun g21 => ?_
 ·
  refine go ?_
  refine x_l fun bk33 w34 ebk33 sbk33 B35 u36 => ?_
  refine x_c func46 rfl rfl (ww1_t 0 ((m : Int) - 1) x.c _ _ _ B35 (by omega)) ?_
  rintro _ w39 ⟨rfl, u40⟩ zu40
  iterate 4 refine st1 ?_
  refine t_same 34 (v := .bool true) rfl (congrArg Value.bool (decide_eq_true (by omega))) ?_
  refine go ?_
  refine f_1 results131 ?_
  exact ⟨rfl, u_d⟩
 refine go ?_
 refine q_p (fun g36 => ?_) fun g36 => ?_
 ·
  refine go ?_
  refine x_l fun bk45 w46 ebk45 sbk45 B47 u48 => ?_
  refine x_c func46 rfl rfl (ww1_t 0 ((n : Int) - 1) x.a _ _ _ B47 (by omega)) ?_
  rintro _ w51 ⟨rfl, u52⟩ zu52
  iterate 6 refine st1 ?_
  refine t_same 50 (v := .bool true) rfl (congrArg Value.bool (decide_eq_true (by omega))) ?_
  iterate 5 refine st1 ?_
  refine t_same 55 (v := .bool true) rfl (congrArg Value.bool (decide_eq_true (by omega))) ?_
  refine go ?_
  refine f_1 results131 ?_
  exact ⟨rfl, u_d⟩
 exfalso; omega
theorem wbad2_c (n m q : Nat) (ac ar : Option Addr) (cc cr : Nat) (x : Opt) (p : Nat) (w0 : World) (hp : Blk w0 p 38 [.int .i64 (n : Int), .slice ac m cc, .slice ar q cr]) (hx : okOptP n m x) (hn : 1 ≤ n ∧ n ≤ 20) (hm : m ≤ 8) :
    CallsV Tryz.prog 130 [.agg #[.int .i64 x.k, .int .i64 x.e, .int .i64 x.c, .int .i64 x.a, .int .i64 x.lo, .int .i64 x.hi], .pointer (some ⟨p, 0, none⟩)] w0 (fun v w' => v = .bool false ∧ Ext w0 w') := by
 refine f_n func130 ?_
 refine go ?_
 refine x_b fun bk2 w3 ebk2 sbk2 B4 u5 => ?_
 refine go ?_
 refine x_c func131 rfl rfl (isOpt_c n m q ac ar cc cr x _ hx hn hm) ?_
 rintro _ w9 ⟨rfl, u10⟩ zu10
 refine go ?_
 refine f_1 results130 ?_
 exact ⟨rfl, u_d⟩
set_option maxHeartbeats 4000000 in
theorem wCheck_c (zz n : Nat) (cs : List Bcl) (ac : Option Addr) (bc oc cc : Nat) (rows : List HC) (ar : Option Addr) (br or_ cr : Nat) (w0 : World) (hc : CaM w0 zz n cs ac bc oc rows ar br or_) :
    CallsV Tryz.prog 78 [.agg #[.int .i64 (n : Int), .slice ac cs.length cc, .slice ar rows.length cr]] w0 (fun v w' => v = .int .i64 0 ∧ Ext w0 w') := by
 have hC := hc.c
 have hR := hc.r
 have hM := hc.m
 have hn1 := hc.hn
 have hcl := hc.hc
 have hrl := hc.hr
 have hcb := hc.hb
 have hob := hc.ho
 refine f_n func78 ?_
 refine go ?_
 refine x_b fun bk2 w3 ebk2 sbk2 B4 u5 => ?_
 refine go ?_
 refine x_l fun bk9 w10 ebk9 sbk9 B11 u12 => ?_
 refine x_c func46 rfl rfl (ww1_t 1 20 (n : Int) _ _ _ B11 (by omega)) ?_
 rintro _ w15 ⟨rfl, u16⟩ zu16
 have E18 := Sc.mk ((((Upd.refl (fun _ => False) w0).nx u5).nx u12).nx u16)
 iterate 6 refine st1 ?_
 refine t_same 14 (v := .bool false) rfl (congrArg Value.bool (decide_eq_false (by omega))) ?_
 iterate 6 refine st1 ?_
 refine t_same 20 (v := .bool false) rfl (congrArg Value.bool (decide_eq_false (by omega))) ?_
 refine go ?_
 refine x_c func126 rfl rfl (containsBc_c encBcl (fun _ => rfl) (fun _ => false) 127 [] cs ac bc oc cc _ own127 (fun x hx w _ => wbad1_c x w (hcb x hx)) (hC.keep E18.u (fun _ h => h)) (by omega)) ?_
 rintro _ w20 ⟨rfl, u21⟩ zu21
 refine t_same 25 (v := .bool false) rfl (congrArg Value.bool (any_noF _)) ?_
 refine go ?_
 refine x_l1 (fun _ => False) [1, 28, 29] (fun (k : Nat) => [(30, .int .i64 (k : Int))]) (fun k w => (k ≤ rows.length)) (fun k => rows.length - k) 0 (Nat.zero_le _) ?_
 rintro k w27 hk u28 zu28 K26 hK26
 have E29 := Sc.mk ((E18.u.nx u21).nx u28)
 refine go ?_
 refine q_p (fun g31 => ?_) fun g31 => ?_
 ·
  have hM1 := hM (nth rows k) (nth_mem (by omega))
  have hxl1 := hM1.2
  refine go ?_
  refine g_i k (hR.keep E29.u (fun _ h => h)) (fun _ => ?_)
  refine go ?_
  refine x_n fun bk35 w36 ebk35 sbk35 B37 u38 => ?_
  refine x_s fun w40 sw40 B42 u41 => ?_
  refine go ?_
  refine x_l fun bk45 w46 ebk45 sbk45 B47 u48 => ?_
  refine x_c func46 rfl rfl (ww1_t 1 3 ((nth rows k).xs.length : Int) _ _ _ B47 (by omega)) ?_
  rintro _ w51 ⟨rfl, u52⟩ zu52
  refine go ?_
  refine t_mkfunc (vs := []) (us := [.pointer (some ⟨bk2, 0, none⟩)]) rfl rfl rfl rfl ?_
  have B55 := ((((((((B4.kx u12).kx u16).kx u21).kx u28).kx u38).keep u41 (by omega)).kx u48).kx u52)
  refine x_c func129 rfl rfl (containsOp_c encOpt (fun _ => rfl) (fun _ => false) 130 [.pointer (some ⟨bk2, 0, none⟩)] (nth rows k).xs (nth rows k).ao (nth rows k).b (nth rows k).o (nth rows k).cap _ own130 (fun x hx w u => wbad2_c n cs.length rows.length ac ar cc cr x bk2 w (B55.keep u (fun h => h)) (hob _ (nth_mem (by omega)) x hx) hn1 hcl) ((hM (nth rows k) (nth_mem (by omega))).1.keep ((((E29.u.nx u38).next u41 (fun i hi h => by omega)).nx u48).nx u52) (fun _ h => h)) (by omega)) ?_
  rintro _ w57 ⟨rfl, u58⟩ zu58
  refine t_same 44 (v := .bool false) rfl (congrArg Value.bool (any_noF _)) ?_
  refine go ?_
  exact hK26 (k + 1) (by omega)
 refine go ?_
 refine f_1 results78 ?_
 exact ⟨rfl, u_d⟩
theorem wCourse_c (zz n : Nat) (cs : List Bcl) (ac : Option Addr) (bc oc cc : Nat) (rows : List HC) (ar : Option Addr) (br or_ cr : Nat) (co : List Int) (aco : Option Addr) (bco oco cco : Nat) (w0 : World) (hc : CaM w0 zz n cs ac bc oc rows ar br or_) (hco : Sl encI 1 w0 aco bco oco co) (hcz : ∀ x ∈ co, x = (zz : Int)) (hck : co.length = rows.length) :
    CallsV Tryz.prog 41 [.agg #[.int .i64 (n : Int), .slice ac cs.length cc, .slice ar rows.length cr], .slice aco co.length cco] w0 (fun v w' => v = .int .i64 0 ∧ Ext w0 w') := by
 have hC := hc.c
 have hR := hc.r
 have hM := hc.m
 have hn1 := hc.hn
 have hcl := hc.hc
 have hrl := hc.hr
 have hcb := hc.hb
 have hob := hc.ho
 refine f_n func41 ?_
 refine go ?_
 refine x_b fun bk2 w3 ebk2 sbk2 B4 u5 => ?_
 have E6 := Sc.mk ((Upd.refl (fun _ => False) w0).nx u5)
 refine go ?_
 refine x_c func78 rfl rfl (wCheck_c zz n cs ac bc oc cc rows ar br or_ cr _ (hc.ext E6.u)) ?_
 rintro _ w10 ⟨rfl, u11⟩ zu11
 iterate 13 refine st1 ?_
 refine t_same 17 (v := .bool false) rfl (congrArg Value.bool (decide_eq_false (by omega))) ?_
 refine go ?_
 refine x_l1 (fun _ => False) [2, 18, 19] (fun (k : Nat) => [(20, .int .i64 (k : Int))]) (fun k w => (k ≤ rows.length)) (fun k => rows.length - k) 0 (Nat.zero_le _) ?_
 rintro k w18 hk u19 zu19 K17 hK17
 have E20 := Sc.mk ((E6.u.nx u11).nx u19)
 refine go ?_
 refine q_p (fun g21 => ?_) fun g21 => ?_
 ·
  have hM1 := hM (nth rows k) (nth_mem (by omega))
  have hxl1 := hM1.2
  refine go ?_
  refine g_i k (hco.keep E20.u (fun _ h => h)) (fun _ => ?_)
  refine st1 ?_
  refine t_same 24 (v := .int .i64 (zz : Int)) rfl (congrArg (Value.int .i64) (hcz _ (nth_mem (by omega)))) ?_
  refine go ?_
  refine g_i k (hR.keep E20.u (fun _ h => h)) (fun _ => ?_)
  refine go ?_
  refine x_l fun bk28 w29 ebk28 sbk28 B30 u31 => ?_
  refine x_c func46 rfl rfl (ww1_t 0 (((nth rows k).xs.length : Int) - 1) (zz : Int) _ _ _ B30 (by omega)) ?_
  rintro _ w34 ⟨rfl, u35⟩ zu35
  refine go ?_
  exact hK17 (k + 1) (by omega)
 refine go ?_
 refine f_1 results41 ?_
 exact ⟨rfl, u_d⟩
theorem event_c (p : Option Addr) (i : Int) (w0 : World) (hi : 0 ≤ i ∧ i ≤ 1000) :
    CallsV Tryz.prog 45 [.pointer p, .int .i64 i] w0 (fun v w' => v = .int .i64 (1 + i) ∧ Ext w0 w') := by
 refine f_n func45 ?_
 refine go ?_
 refine f_1 results45 ?_
 exact ⟨rfl, u_d⟩
theorem clock_c (gb : Nat) (n i : Int) (ac : Option Addr) (m cc : Nat) (ar : Option Addr) (q cr : Nat) (ao : Option Addr) (la ca : Nat) (w0 : World) (hgb : Blk w0 gb 188 [.int .i64 n, .slice ac m cc, .slice ar q cr, .slice ao la ca]) (hi : (0 ≤ i ∧ i ≤ 1000) ∧ (0 ≤ n ∧ n ≤ 1000)) :
    CallsV Tryz.prog 80 [.pointer (some ⟨gb, 0, none⟩), .int .i64 i] w0 (fun v w' => v = .int .i64 (1 + n + i) ∧ Ext w0 w') := by
 refine f_n func80 ?_
 refine go ?_
 refine f_1 results80 ?_
 exact ⟨rfl, u_d⟩
theorem many_c (gb : Nat) (n : Int) (ac : Option Addr) (m cc : Nat) (ar : Option Addr) (q cr : Nat) (ao : Option Addr) (la ca : Nat) (w0 : World) (hgb : Blk w0 gb 188 [.int .i64 n, .slice ac m cc, .slice ar q cr, .slice ao la ca]) (hn : (0 ≤ n ∧ n ≤ 1000) ∧ m ≤ 1000) :
    CallsV Tryz.prog 120 [.pointer (some ⟨gb, 0, none⟩)] w0 (fun v w' => v = .int .i64 (1 + n + (m : Int)) ∧ Ext w0 w') := by
 refine f_n func120 ?_
 refine go ?_
 refine c_drawnM follows (fun _ => False) (OTl [0, 2, 4, 6, 8, 10, 12, 14, 16, 18, 20, 22, 24, 26]) (by kernel_rfl) fun w3 u4 => ?_
 have zu4 := u4.size
 refine go ?_
 refine f_1 results120 ?_
 exact ⟨rfl, u_d⟩
set_option maxHeartbeats 4000000 in
theorem wlink_c (gb : Nat) (n : Int) (ac : Option Addr) (m cc : Nat) (ar : Option Addr) (q cr : Nat) (base : Nat) (ao : Option Addr) (ga ca : Nat) (xs : List Lnk) (f t lo hi : Int) (w0 : World) (hgb : Blk w0 gb 188 [.int .i64 n, .slice ac m cc, .slice ar q cr, .slice ao xs.length ca]) (har : Acc encLnk 3 102 base w0 ao ga ca xs) (hb : base ≤ w0.heap.size) (hl : xs.length ≤ 10000) (hne : base ≤ ga → gb ≠ ga) (hlo : -2000000 ≤ lo ∧ lo ≤ 2000000) :
    CallsV Tryz.prog 79 [.pointer (some ⟨gb, 0, none⟩), .int .i64 f, .int .i64 t, .agg #[.int .i64 lo, .int .i64 hi]] w0 (fun v w' => v = .tuple #[] ∧ (∃ ao' ga' ca', Blk w' gb 188 [.int .i64 n, .slice ac m cc, .slice ar q cr, .slice ao' (List.length (xs ++ lnk2 f t lo hi)) ca'] ∧ Acc encLnk 3 102 base w' ao' ga' ca' (xs ++ lnk2 f t lo hi) ∧ (ga' = ga ∨ w0.heap.size ≤ ga')) ∧ Upd (fun i => i = gb ∨ (i = ga ∧ base ≤ i)) w0 w') := by
 have hgl := hgb.lt
 have hal := har.lt
 refine f_n func79 ?_
 refine go ?_
 refine x_b fun bk2 w3 ebk2 sbk2 B4 u5 => ?_
 refine go ?_
 refine c_drawnM follows (fun i => (i = ga ∧ base ≤ i) ∨ i = gb) (.look 0 (.look 1 (.look 2 (.look 3 (.look 5 (.look 6 (.look 7 (.look 8 (.look 9 (.look 10 (.look 11 (.look 12 (.look 13 (.look 14 (.look 15 (.act 4 (.act 16 (.act 17 (.look 18 (.look 19 (.act 20 .done .stop))) .stop) .stop) (.act 16 (.act 4 (.act 17 (.look 18 (.look 19 (.act 20 .done .stop))) .stop) .stop) .stop))))))))))))))))) (by kernel_rfl) fun w7 u8 => ?_
 have zu8 := u8.size
 refine go ?_
 refine y_neg rfl rfl rfl (by omega) ?_
 refine go ?_
 refine s_or ?_ ?_
 ·
  refine go ?_
  refine x_l fun bk10 w11 ebk10 sbk10 B12 u13 => ?_
  refine t_same 24 (v := .slice (some ⟨bk10, 0, none⟩) ((lnk2 f t lo hi).length) 2) rfl rfl ?_
  refine go ?_
  have D15 := (((har.keep u5 (fun _ h => h)).keep u8 (fun _ h => h)).keep u13 (fun _ h => h))
  refine t_appendAll (enc := encLnk) (z := .agg #[.int .i64 0, .int .i64 0, .int .i64 0]) (bytes := 24) (k := 3) (base := base) (xs := xs) (ys := (lnk2 f t lo hi)) underlying98 (by kernel_rfl) rfl (by decide) (fun _ => rfl) (by intro x; simp [encLnk, Value.oneCell']) rfl rfl rfl rfl D15 (Sl.ofBlkS (enc := encLnk) (xs := lnk2 f t lo hi) (fun _ => rfl) B12) (by omega) (by omega) (by show 2 ≤ 1000000; decide) (by decide) (fun ao16 gb17 cp18 w19 A20 u21 gegb17 lngb17 => ?_)
  have zu21 := u21.size
  have lt_gb17 := A20.lt
  refine go ?_
  refine x_s fun w23 sw23 B25 u24 => ?_
  refine go ?_
  refine f_ret0 results79 ?_
  have D27 := (A20.keep u24 (fun hb => show ¬ (gb17 = gb) by first | omega | assumption))
  exact ⟨rfl, ⟨_, _, _, B25, D27, by omega⟩, u_d⟩
 refine go ?_
 refine x_l fun bk28 w29 ebk28 sbk28 B30 u31 => ?_
 refine t_same 24 (v := .slice (some ⟨bk28, 0, none⟩) ((lnk2 f t lo hi).length) 2) rfl rfl ?_
 refine go ?_
 have D33 := (((har.keep u5 (fun _ h => h)).keep u8 (fun _ h => h)).keep u31 (fun _ h => h))
 refine t_appendAll (enc := encLnk) (z := .agg #[.int .i64 0, .int .i64 0, .int .i64 0]) (bytes := 24) (k := 3) (base := base) (xs := xs) (ys := (lnk2 f t lo hi)) underlying98 (by kernel_rfl) rfl (by decide) (fun _ => rfl) (by intro x; simp [encLnk, Value.oneCell']) rfl rfl rfl rfl D33 (Sl.ofBlkS (enc := encLnk) (xs := lnk2 f t lo hi) (fun _ => rfl) B30) (by omega) (by omega) (by show 2 ≤ 1000000; decide) (by decide) (fun ao34 gb35 cp36 w37 A38 u39 gegb35 lngb35 => ?_)
 have zu39 := u39.size
 have lt_gb35 := A38.lt
 refine go ?_
 refine x_s fun w41 sw41 B43 u42 => ?_
 refine go ?_
 refine f_ret0 results79 ?_
 have D45 := (A38.keep u42 (fun hb => show ¬ (gb35 = gb) by first | omega | assumption))
 exact ⟨rfl, ⟨_, _, _, B43, D45, by omega⟩, u_d⟩

end Go.Proofs.YtagmkfbbhfaceaaGreatDoor
namespace Go.Proofs.YtagmkfbbhfaceaaGreatDoor
open Go Go.RowKit Go.Proofs.Tryz
set_option maxRecDepth 10000
theorem opn_eq {zz n : Nat} {cs : List Bcl} {rows : List HC} : opnW n cs (osR zz rows) = opES n ++ opC n cs cs.length ++ opO n (osR zz rows) rows.length := by unfold opnW; rw [show (osR zz rows).length = rows.length from List.length_map ..]
set_option maxHeartbeats 4000000 in
theorem wopen_c (zz n : Nat) (cs : List Bcl) (ac : Option Addr) (bc oc cc : Nat) (rows : List HC) (ar : Option Addr) (br or_ cr : Nat) (co : List Int) (aco : Option Addr) (bco oco cco : Nat) (w0 : World) (hc : CaM w0 zz n cs ac bc oc rows ar br or_) (hco : Sl encI 1 w0 aco bco oco co) (hcz : ∀ x ∈ co, x = (zz : Int)) (hck : co.length = rows.length) (hpos : 0 < w0.heap.size) :
    CallsV Tryz.prog 42 [.agg #[.int .i64 (n : Int), .slice ac cs.length cc, .slice ar rows.length cr], .slice aco co.length cco] w0 (fun v w' => (∃ gb ao ga ca base, v = .pointer (some ⟨gb, 0, none⟩) ∧ w0.heap.size ≤ gb ∧ gb < base ∧ base ≤ w'.heap.size ∧ Blk w' gb 188 [.int .i64 (n : Int), .slice ac cs.length cc, .slice ar rows.length cr, .slice ao (opnW n cs (osR zz rows)).length ca] ∧ Acc encLnk 3 102 base w' ao ga ca (opnW n cs (osR zz rows))) ∧ Ext w0 w') := by
 have hC := hc.c
 have hR := hc.r
 have hM := hc.m
 have hn1 := hc.hn
 have hcl := hc.hc
 have hrl := hc.hr
 have hcb := hc.hb
 have hob := hc.ho
 refine f_n func42 ?_
 refine go ?_
 refine x_b fun bk2 w3 ebk2 sbk2 B4 u5 => ?_
 refine go ?_
 refine x_b fun bk8 w9 ebk8 sbk8 B10 u11 => ?_
 refine go ?_
 refine x_l4 (fun i => i = bk8 ∨ w9.heap.size ≤ i) [1, 2, 5, 18] (fun (k : Nat) (ao : Option Addr) (ga : Nat) (ca : Nat) => [(19, .int .i64 (k : Int))]) (fun k ao ga ca w => Blk w bk8 188 [.int .i64 (n : Int), .slice ac cs.length cc, .slice ar rows.length cr, .slice ao ((opES k).length) ca] ∧ (k ≤ n) ∧ (Acc encLnk 3 102 w9.heap.size w ao ga ca (opES k))) (fun k ao ga ca => n - k) 0 none 0 0 ⟨B10, (Nat.zero_le _), (Acc.nil encLnk 3 102 w9.heap.size _ (by omega) (Nat.le_refl _))⟩ ?_
 rintro k ao ga ca w16 ⟨I18, hk, har⟩ u17 zu17 K15 hK15
 have lt_ga := har.lt
 have hek := opE_len (k := k)
 refine go ?_
 refine q_p (fun g20 => ?_) fun g20 => ?_
 ·
  have hst1 := opE_succ (k := k)
  refine go ?_
  refine x_c func45 rfl rfl (event_c _ (k : Int) _ (by omega)) ?_
  rintro _ w25 ⟨rfl, u26⟩ zu26
  refine go ?_
  have B30 := (I18.kx u26)
  have D31 := (har.keep u26 (fun _ h => h))
  refine t_call own79 rfl rfl rfl rfl (wlink_c bk8 (n : Int) ac cs.length cc ar rows.length cr w9.heap.size ao ga ca (opES k) 0 (1 + (k : Int)) 0 1000000 _ B30 D31 (by omega) (by omega) (by omega) (by omega)) (fun v32 w33 r35 => ?_)
  obtain ⟨rfl, ⟨aq29, gq29, cq29, hgq29, haq29, hhq29⟩, u34⟩ := r35
  have zu34 := u34.size
  have lt_gq29 := haq29.lt
  have hlbq29 := hgq29.lt
  refine go ?_
  exact hK15 (k + 1) aq29 gq29 cq29 ⟨(by rw [hst1]; exact hgq29), (by omega), (by rw [hst1]; exact haq29)⟩ (hu := ((u17.nx u26).next u34 (fun i hi (h : i = bk8 ∨ (i = ga ∧ w9.heap.size ≤ i)) => show i = bk8 ∨ w9.heap.size ≤ i by first | omega | assumption)))
 have hst0 : (opES n ++ opC n cs 0) = opES k := by rw [show k = n by omega]; exact List.append_nil _
 refine go ?_
 refine x_l4 (fun i => i = bk8 ∨ w9.heap.size ≤ i) [1, 2, 5, 30, 31] (fun (k : Nat) (ao : Option Addr) (ga : Nat) (ca : Nat) => [(32, .int .i64 (k : Int))]) (fun k ao ga ca w => Blk w bk8 188 [.int .i64 (n : Int), .slice ac cs.length cc, .slice ar rows.length cr, .slice ao ((opES n ++ opC n cs k).length) ca] ∧ (k ≤ cs.length) ∧ (Acc encLnk 3 102 w9.heap.size w ao ga ca (opES n ++ opC n cs k))) (fun k ao ga ca => cs.length - k) 0 ao ga ca ⟨(by rw [hst0]; exact I18), (Nat.zero_le _), (by rw [hst0]; exact har)⟩ ?_
 rintro k ao ga ca w40 ⟨I42, hk, har⟩ u41 zu41 K39 hK39
 have E43 := Sc.mk (((((Upd.refl (fun _ => False) w0).nx u5).nx u11).next u17 (fun i hi (h : i = bk8 ∨ w9.heap.size ≤ i) => show False by first | omega | assumption)).next u41 (fun i hi (h : i = bk8 ∨ w9.heap.size ≤ i) => show False by first | omega | assumption))
 have lt_ga := har.lt
 have hck9 := opC_len (n := n) (cs := cs) (k := k)
 have hek9 := opE_len (k := n)
 have hlk : (opES n ++ opC n cs k).length = 2 * n + 2 * k := by rw [List.length_append, hek9, hck9]
 refine go ?_
 refine q_p (fun g33 => ?_) fun g33 => ?_
 ·
  have hbk := hcb _ (nth_mem (xs := cs) (i := k) (by omega))
  have hst2 : (opES n ++ opC n cs (k + 1)) = (opES n ++ opC n cs k) ++ lnk2 0 (1 + (n : Int) + (k : Int)) (-(nth cs k).hi) (-(nth cs k).lo) := by rw [opC_succ, List.append_assoc]
  refine go ?_
  refine g_i k (hC.keep E43.u (fun _ h => h)) (fun _ => ?_)
  refine go ?_
  refine x_n fun bk49 w50 ebk49 sbk49 B51 u52 => ?_
  refine go ?_
  refine x_s fun w54 sw54 B56 u55 => ?_
  refine go ?_
  refine c_drawnM follows (fun i => i = bk8 ∨ (i = ga ∧ w9.heap.size ≤ i)) (OTl [0, 2, 4, 8, 10, 12, 14, 16, 18, 20, 7, 23]) (by kernel_rfl) fun w58 u59 => ?_
  have zu59 := u59.size
  refine go ?_
  refine y_neg rfl rfl rfl (by omega) ?_
  refine go ?_
  refine y_neg rfl rfl rfl (by omega) ?_
  refine go ?_
  have B61 := (((I42.kx u52).keep u55 (by omega)).kx u59)
  refine x_c func80 rfl rfl (clock_c bk8 (n : Int) (k : Int) ac cs.length cc ar rows.length cr ao ((opES n ++ opC n cs k).length) ca _ B61 (by omega)) ?_
  rintro _ w63 ⟨rfl, u64⟩ zu64
  refine go ?_
  have B68 := (B61.kx u64)
  have D69 := ((((har.keep u52 (fun _ h => h)).keep u55 (fun hb => show ¬ (ga = bk49) by first | omega | assumption)).keep u59 (fun _ h => h)).keep u64 (fun _ h => h))
  refine t_call own79 rfl rfl rfl rfl (wlink_c bk8 (n : Int) ac cs.length cc ar rows.length cr w9.heap.size ao ga ca (opES n ++ opC n cs k) 0 (1 + (n : Int) + (k : Int)) (-((nth cs k).hi)) (-((nth cs k).lo)) _ B68 D69 (by omega) (by omega) (by omega) (by omega)) (fun v70 w71 r73 => ?_)
  obtain ⟨rfl, ⟨aq67, gq67, cq67, hgq67, haq67, hhq67⟩, u72⟩ := r73
  have zu72 := u72.size
  have lt_gq67 := haq67.lt
  have hlbq67 := hgq67.lt
  refine go ?_
  exact hK39 (k + 1) aq67 gq67 cq67 ⟨(by rw [hst2]; exact hgq67), (by omega), (by rw [hst2]; exact haq67)⟩ (hu := (((((u41.nx u52).next u55 (fun i hi (h : i = bk49) => show i = bk8 ∨ w9.heap.size ≤ i by first | omega | assumption)).nx u59).nx u64).next u72 (fun i hi (h : i = bk8 ∨ (i = ga ∧ w9.heap.size ≤ i)) => show i = bk8 ∨ w9.heap.size ≤ i by first | omega | assumption)))
 have hst9 : (opES n ++ opC n cs cs.length ++ opO n (osR zz rows) 0) = (opES n ++ opC n cs k) := by rw [show k = cs.length by omega]; exact List.append_nil _
 refine go ?_
 refine x_l4 (fun i => i = bk8 ∨ w9.heap.size ≤ i) [2, 5, 50, 51] (fun (k : Nat) (ao : Option Addr) (ga : Nat) (ca : Nat) => [(52, .int .i64 (k : Int))]) (fun k ao ga ca w => Blk w bk8 188 [.int .i64 (n : Int), .slice ac cs.length cc, .slice ar rows.length cr, .slice ao ((opES n ++ opC n cs cs.length ++ opO n (osR zz rows) k).length) ca] ∧ (k ≤ rows.length) ∧ (Acc encLnk 3 102 w9.heap.size w ao ga ca (opES n ++ opC n cs cs.length ++ opO n (osR zz rows) k))) (fun k ao ga ca => rows.length - k) 0 ao ga ca ⟨(by rw [hst9]; exact I42), (Nat.zero_le _), (by rw [hst9]; exact har)⟩ ?_
 rintro k ao ga ca w78 ⟨I80, hk, har⟩ u79 zu79 K77 hK77
 have E81 := Sc.mk (E43.u.next u79 (fun i hi (h : i = bk8 ∨ w9.heap.size ≤ i) => show False by first | omega | assumption))
 have lt_ga := har.lt
 have hok9 := opO_len (zz := zz) (n := n) (rows := rows) hk
 have hck9 := opC_len (n := n) (cs := cs) (k := cs.length)
 have hek9 := opE_len (k := n)
 have hlk : (opES n ++ opC n cs cs.length ++ opO n (osR zz rows) k).length = 2 * n + 2 * cs.length + 2 * k := by rw [List.length_append, List.length_append, hek9, hck9, hok9]
 refine go ?_
 refine q_p (fun g53 => ?_) fun g53 => ?_
 ·
  have hM1 := hM (nth rows k) (nth_mem (by omega))
  have hxl1 := hM1.2
  have hop := hob _ (nth_mem (xs := rows) (i := k) (by omega)) _ (nth_mem (xs := (nth rows k).xs) (i := zz) (by omega))
  unfold okOptP at hop
  have hst3a := opO_succ (zz := zz) (n := n) (rows := rows) (k := k) (by omega)
  refine go ?_
  refine g_i k (hco.keep E81.u (fun _ h => h)) (fun _ => ?_)
  refine st1 ?_
  refine t_same 56 (v := .int .i64 (zz : Int)) rfl (congrArg (Value.int .i64) (hcz _ (nth_mem (by omega)))) ?_
  refine go ?_
  refine g_i k (hR.keep E81.u (fun _ h => h)) (fun _ => ?_)
  refine go ?_
  refine g_i zz ((hM (nth rows k) (nth_mem (by omega))).1.keep E81.u (fun _ h => h)) (fun _ => ?_) (hj := (by omega))
  refine go ?_
  refine x_n fun bk90 w91 ebk90 sbk90 B92 u93 => ?_
  refine x_s fun w95 sw95 B97 u96 => ?_
  refine go ?_
  refine t_mkfunc (vs := [.pointer (some ⟨bk8, 0, none⟩)]) (us := []) rfl rfl rfl rfl ?_
  refine go ?_
  refine q_p (fun g72 => ?_) fun g72 => ?_
  ·
   have hst3 : (opES n ++ opC n cs cs.length ++ opO n (osR zz rows) (k + 1)) = (opES n ++ opC n cs cs.length ++ opO n (osR zz rows) k) ++ lnk2 (1 + (nth (nth rows k).xs zz).a) (1 + (nth (nth rows k).xs zz).e) (nth (nth rows k).xs zz).lo (nth (nth rows k).xs zz).hi := by rw [hst3a, ← List.append_assoc]; unfold lnkO; rw [if_pos g72]
   refine go ?_
   refine c_drawnM follows (fun _ => False) (OTl [0, 4, 6, 3, 8, 10]) (by kernel_rfl) fun w104 u105 => ?_
   have zu105 := u105.size
   refine go ?_
   refine t_mkfunc (vs := [.pointer (some ⟨bk8, 0, none⟩)]) (us := []) rfl rfl rfl rfl ?_
   refine go ?_
   refine c_drawnM follows (fun i => i = bk8 ∨ (i = ga ∧ w9.heap.size ≤ i)) (OTl [0, 2, 4, 8, 10, 12, 16, 18, 7, 15, 21]) (by kernel_rfl) fun w108 u109 => ?_
   have zu109 := u109.size
   refine go ?_
   refine x_c func45 rfl rfl (event_c _ ((nth ((nth rows k).xs) zz).a) _ (by omega)) ?_
   rintro _ w112 ⟨rfl, u113⟩ zu113
   refine go ?_
   refine x_c func45 rfl rfl (event_c _ ((nth ((nth rows k).xs) zz).e) _ (by omega)) ?_
   rintro _ w117 ⟨rfl, u118⟩ zu118
   refine go ?_
   have B122 := ((((((I80.kx u93).keep u96 (by omega)).kx u105).kx u109).kx u113).kx u118)
   have D123 := ((((((har.keep u93 (fun _ h => h)).keep u96 (fun hb => show ¬ (ga = bk90) by first | omega | assumption)).keep u105 (fun _ h => h)).keep u109 (fun _ h => h)).keep u113 (fun _ h => h)).keep u118 (fun _ h => h))
   refine t_call own79 rfl rfl rfl rfl (wlink_c bk8 (n : Int) ac cs.length cc ar rows.length cr w9.heap.size ao ga ca (opES n ++ opC n cs cs.length ++ opO n (osR zz rows) k) (1 + (nth ((nth rows k).xs) zz).a) (1 + (nth ((nth rows k).xs) zz).e) ((nth ((nth rows k).xs) zz).lo) ((nth ((nth rows k).xs) zz).hi) _ B122 D123 (by omega) (by omega) (by omega) (by omega)) (fun v124 w125 r127 => ?_)
   obtain ⟨rfl, ⟨aq121, gq121, cq121, hgq121, haq121, hhq121⟩, u126⟩ := r127
   have zu126 := u126.size
   have lt_gq121 := haq121.lt
   have hlbq121 := hgq121.lt
   refine go ?_
   exact hK77 (k + 1) aq121 gq121 cq121 ⟨(by rw [hst3]; exact hgq121), (by omega), (by rw [hst3]; exact haq121)⟩ (hu := (((((((u79.nx u93).next u96 (fun i hi (h : i = bk90) => show i = bk8 ∨ w9.heap.size ≤ i by first | omega | assumption)).nx u105).nx u109).nx u113).nx u118).next u126 (fun i hi (h : i = bk8 ∨ (i = ga ∧ w9.heap.size ≤ i)) => show i = bk8 ∨ w9.heap.size ≤ i by first | omega | assumption)))
  have hst3 : (opES n ++ opC n cs cs.length ++ opO n (osR zz rows) (k + 1)) = (opES n ++ opC n cs cs.length ++ opO n (osR zz rows) k) ++ lnk2 (1 + (n : Int) + (nth (nth rows k).xs zz).c) (1 + (nth (nth rows k).xs zz).e) (nth (nth rows k).xs zz).lo (nth (nth rows k).xs zz).hi := by rw [hst3a, ← List.append_assoc]; unfold lnkO; rw [if_neg g72]
  refine go ?_
  refine c_drawnM follows (fun i => i = bk8 ∨ (i = ga ∧ w9.heap.size ≤ i)) (OTl [0, 2, 4, 6, 10, 12, 14, 18, 20, 9, 17, 23]) (by kernel_rfl) fun w129 u130 => ?_
  have zu130 := u130.size
  refine go ?_
  have B132 := (((I80.kx u93).keep u96 (by omega)).kx u130)
  refine x_c func80 rfl rfl (clock_c bk8 (n : Int) ((nth ((nth rows k).xs) zz).c) ac cs.length cc ar rows.length cr ao ((opES n ++ opC n cs cs.length ++ opO n (osR zz rows) k).length) ca _ B132 (by omega)) ?_
  rintro _ w134 ⟨rfl, u135⟩ zu135
  refine go ?_
  refine x_c func45 rfl rfl (event_c _ ((nth ((nth rows k).xs) zz).e) _ (by omega)) ?_
  rintro _ w139 ⟨rfl, u140⟩ zu140
  refine go ?_
  have B144 := ((B132.kx u135).kx u140)
  have D145 := (((((har.keep u93 (fun _ h => h)).keep u96 (fun hb => show ¬ (ga = bk90) by first | omega | assumption)).keep u130 (fun _ h => h)).keep u135 (fun _ h => h)).keep u140 (fun _ h => h))
  refine t_call own79 rfl rfl rfl rfl (wlink_c bk8 (n : Int) ac cs.length cc ar rows.length cr w9.heap.size ao ga ca (opES n ++ opC n cs cs.length ++ opO n (osR zz rows) k) (1 + (n : Int) + (nth ((nth rows k).xs) zz).c) (1 + (nth ((nth rows k).xs) zz).e) ((nth ((nth rows k).xs) zz).lo) ((nth ((nth rows k).xs) zz).hi) _ B144 D145 (by omega) (by omega) (by omega) (by omega)) (fun v146 w147 r149 => ?_)
  obtain ⟨rfl, ⟨aq143, gq143, cq143, hgq143, haq143, hhq143⟩, u148⟩ := r149
  have zu148 := u148.size
  have lt_gq143 := haq143.lt
  have hlbq143 := hgq143.lt
  refine go ?_
  exact hK77 (k + 1) aq143 gq143 cq143 ⟨(by rw [hst3]; exact hgq143), (by omega), (by rw [hst3]; exact haq143)⟩ (hu := ((((((u79.nx u93).next u96 (fun i hi (h : i = bk90) => show i = bk8 ∨ w9.heap.size ≤ i by first | omega | assumption)).nx u130).nx u135).nx u140).next u148 (fun i hi (h : i = bk8 ∨ (i = ga ∧ w9.heap.size ≤ i)) => show i = bk8 ∨ w9.heap.size ≤ i by first | omega | assumption)))
 refine go ?_
 refine f_1 results42 ?_
 obtain rfl : k = rows.length := by omega
 exact ⟨⟨bk8, ao, ga, ca, w9.heap.size, rfl, by omega, by omega, by omega, by rw [opn_eq]; exact I80, by rw [opn_eq]; exact har⟩, u_d⟩

end Go.Proofs.YtagmkfbbhfaceaaGreatDoor
namespace Go.Proofs.YtagmkfbbhfaceaaGreatDoor
open Go Go.RowKit Go.Proofs.Tryz
set_option maxRecDepth 10000

theorem rep9 {α : Type} (a : α) (k : Nat) : List.replicate (k + 1) a = List.replicate k a ++ [a] := List.replicate_succ'
theorem rg8_snoc {α : Type} (f : Nat → α) (k : Nat) : (List.range (k + 1)).map f = (List.range k).map f ++ [f k] := by rw [List.range_succ, List.map_append]; rfl
/-- Values after some passes. -/
def okBd (j : Nat) (s : Rch) : Prop := ∀ x ∈ s.m, -(200000000 * (j : Int)) ≤ x ∧ x ≤ far9
theorem okBd_ini {n : Nat} {fr : Int} : okBd 0 (iniW n fr) := fun x hx => by
  obtain ⟨v, _, rfl⟩ := List.mem_map.1 hx
  unfold iniV far9
  split <;> omega
theorem okBd_pas {xs : List Lnk} {n j : Nat} (hx : ∀ l ∈ xs, okLnk n l) (hxl : xs.length ≤ 100) {s : Rch} (hl : s.m.length = n) (h : okBd j s) : okBd (j + 1) (pasW xs s xs.length) := fun x hm => by
  have := pasW_bd hx hl h xs.length (Nat.le_refl _) x hm
  omega
theorem okBd_k {xs : List Lnk} {n j : Nat} (hx : ∀ l ∈ xs, okLnk n l) {s : Rch} (hl : s.m.length = n) (h : okBd j s) (hj : j ≤ 30) {k : Nat} (hk : k ≤ xs.length) (hxl : xs.length ≤ 100) {v : Nat} (hv : v < n) : -10000000000 ≤ nth (pasW xs s k).m v ∧ nth (pasW xs s k).m v ≤ 1099511627776 := by
  have := pasW_bd hx hl h k hk _ (nth_mem (xs := (pasW xs s k).m) (i := v) (by rw [(pasW_len xs s k).1]; omega))
  unfold far9 at this
  omega
set_option maxHeartbeats 4000000 in
theorem reach_c (pg n : Nat) (ac : Option Addr) (m cc : Nat) (ar : Option Addr) (q cr : Nat) (ao : Option Addr) (ga oa ca : Nat) (xs : List Lnk) (fr : Int) (w0 : World) (hgb : Blk w0 pg 188 [.int .i64 (n : Int), .slice ac m cc, .slice ar q cr, .slice ao xs.length ca]) (hxs : Sl encLnk 3 w0 ao ga oa xs) (hx : ∀ l ∈ xs, okLnk (1 + n + m) l) (hxl : xs.length ≤ 100) (hn : n ≤ 20 ∧ m ≤ 8) (hfr : -1 ≤ fr ∧ fr ≤ 1000) :
    CallsV Tryz.prog 81 [.pointer (some ⟨pg, 0, none⟩), .int .i64 fr] w0 (fun v w' => (∃ al gl cl ab gb cb, v = .tuple #[.slice al (List.length (rchW (1 + n + m) xs fr).m) cl, .slice ab (List.length (rchW (1 + n + m) xs fr).b) cb, .int .i64 (rchW (1 + n + m) xs fr).ring] ∧ Acc encI 1 3 w0.heap.size w' al gl cl (rchW (1 + n + m) xs fr).m ∧ Acc encI 1 3 w0.heap.size w' ab gb cb (rchW (1 + n + m) xs fr).b) ∧ Ext w0 w') := by
 have hpgl := hgb.lt
 refine f_n func81 ?_
 refine go ?_
 refine x_c func120 rfl rfl (many_c pg (n : Int) ac m cc ar q cr ao xs.length ca _ hgb (by omega)) ?_
 rintro _ w5 ⟨rfl, u6⟩ zu6
 refine go ?_
 refine q_loop (γ := Nat × Option Addr × Nat × Nat × Option Addr × Nat × Nat) (fun gg => [(0, .pointer (some ⟨pg, 0, none⟩)), (1, .int .i64 fr), (4, .slice gg.2.1 (((List.range gg.1).map (iniV fr)).length) gg.2.2.2.1), (5, .slice gg.2.2.2.2.1 ((List.replicate gg.1 (-1 : Int)).length) gg.2.2.2.2.2.2), (6, .int .i64 0), (13, .int .i64 (1 + (n : Int) + (m : Int))), (14, .int .i64 (gg.1 : Int))]) (fun gg w => Upd (fun i => w0.heap.size ≤ i) w5 w ∧ (gg.1 ≤ (1 + n + m)) ∧ (Acc encI 1 3 w0.heap.size w gg.2.1 gg.2.2.1 gg.2.2.2.1 ((List.range gg.1).map (iniV fr))) ∧ (Acc encI 1 3 w0.heap.size w gg.2.2.2.2.1 gg.2.2.2.2.2.1 gg.2.2.2.2.2.2 (List.replicate gg.1 (-1 : Int))) ∧ (w0.heap.size ≤ gg.2.2.1 → gg.2.2.1 ≠ gg.2.2.2.2.2.1)) (fun gg => (1 + n + m) - gg.1) (0, none, 0, 0, none, 0, 0) ⟨rfl, rfl, rfl, rfl, rfl, rfl, rfl, trivial⟩ ⟨Upd.refl _ _, (Nat.zero_le _), (Acc.nil encI 1 3 w0.heap.size _ (by omega) (by omega)), (Acc.nil encI 1 3 w0.heap.size _ (by omega) (by omega)), (fun h => by have h9 : w0.heap.size ≤ 0 := h; omega)⟩ ?_
 intro gg w10 hW K9 hK9
 obtain ⟨k, al, gl, cl, ab, gb, cb⟩ := gg
 change WC _ _ _ _ _ _ [(0, .pointer (some ⟨pg, 0, none⟩)), (1, .int .i64 fr), (4, .slice al (((List.range k).map (iniV fr)).length) cl), (5, .slice ab ((List.replicate k (-1 : Int)).length) cb), (6, .int .i64 0), (13, .int .i64 (1 + (n : Int) + (m : Int))), (14, .int .i64 (k : Int))] _
 change Upd (fun i => w0.heap.size ≤ i) w5 w10 ∧ (k ≤ (1 + n + m)) ∧ (Acc encI 1 3 w0.heap.size w10 al gl cl ((List.range k).map (iniV fr))) ∧ (Acc encI 1 3 w0.heap.size w10 ab gb cb (List.replicate k (-1 : Int))) ∧ (w0.heap.size ≤ gl → gl ≠ gb) at hW
 obtain ⟨u11, I12, I13, I14, I15⟩ := hW
 have zu11 := u11.size
 have hk := I12; clear I12
 have hAl := I13; clear I13
 have hAb := I14; clear I14
 have hne := I15; clear I15
 have lt_gl := hAl.lt
 have lt_gb := hAb.lt
 have hll : ((List.range k).map (iniV fr)).length = k := by rw [List.length_map, List.length_range]
 have hbl : (List.replicate k (-1 : Int)).length = k := List.length_replicate
 refine go ?_
 refine q_p (fun g15 => ?_) fun g15 => ?_
 ·
  iterate 15 refine st1 ?_
  refine x_k1 (fun _ => False) [0, 1, 4, 5, 6, 13, 14] (fun (_x : Unit) => [(8, .int .i64 (iniV fr k))]) (fun _x w => True) (fun K26 hK26 => ?_) ?_
  ·
   refine go ?_
   refine t_splitp 20 rfl (fun g20 => ?_) (fun g20 => ?_)
   ·
    refine go ?_
    exact hK26 () trivial (hs := by exact ⟨(congrArg (fun z => some (Value.int .i64 z)) (by unfold iniV; first | (rw [if_pos (by omega)]) | (rw [if_neg (by omega)]; rfl))), rfl, rfl, rfl, rfl, rfl, rfl, rfl, trivial⟩)
   refine go ?_
   refine q_p (fun g23 => ?_) fun g23 => ?_
   ·
    refine go ?_
    exact hK26 () trivial (hs := by exact ⟨(congrArg (fun z => some (Value.int .i64 z)) (by unfold iniV; first | (rw [if_pos (by omega)]) | (rw [if_neg (by omega)]; rfl))), rfl, rfl, rfl, rfl, rfl, rfl, rfl, trivial⟩)
   refine go ?_
   exact hK26 () trivial (hs := by exact ⟨(congrArg (fun z => some (Value.int .i64 z)) (by unfold iniV; first | (rw [if_pos (by omega)]) | (rw [if_neg (by omega)]; rfl))), rfl, rfl, rfl, rfl, rfl, rfl, rfl, trivial⟩)
  rintro _x w27 _ u28 zu28
  refine go ?_
  refine x_l fun bk31 w32 ebk31 sbk31 B33 u34 => ?_
  have D36 := ((hAl.keep u28 (fun _ h => h)).keep u34 (fun _ h => h))
  refine t_append (z := .int .i64 0) (bytes := 8) (k := 1) (base := w0.heap.size) (iniV fr k) underlying28 (by kernel_rfl) rfl (by decide) (fun _ => rfl) (by intro x; simp [encI, Value.oneCell']) rfl rfl rfl rfl D36 B33 (by omega) (by omega) (by decide) (fun ao37 gb38 cp39 w40 A41 u42 gegb38 lngb38 => ?_)
  have zu42 := u42.size
  have lt_gb38 := A41.lt
  refine go ?_
  refine x_l fun bk44 w45 ebk44 sbk44 B46 u47 => ?_
  have D49 := ((((hAb.keep u28 (fun _ h => h)).keep u34 (fun _ h => h)).keep u42 (fun hb => show ¬ ((gb = gl ∧ w0.heap.size ≤ gb)) by first | omega | assumption)).keep u47 (fun _ h => h))
  refine t_append (z := .int .i64 0) (bytes := 8) (k := 1) (base := w0.heap.size) (-1) underlying28 (by kernel_rfl) rfl (by decide) (fun _ => rfl) (by intro x; simp [encI, Value.oneCell']) rfl rfl rfl rfl D49 B46 (by omega) (by omega) (by decide) (fun ao50 gb51 cp52 w53 A54 u55 gegb51 lngb51 => ?_)
  have zu55 := u55.size
  have lt_gb51 := A54.lt
  refine go ?_
  have D57 := ((A41.keep u47 (fun _ h => h)).keep u55 (fun hb => show ¬ ((gb38 = gb ∧ w0.heap.size ≤ gb38)) by first | omega | assumption))
  exact hK9 (k + 1, ao37, gb38, cp39, ao50, gb51, cp52) _ _ (by show (1 + n + m) - (k + 1) < (1 + n + m) - k; omega) ⟨rfl, rfl, (by first | (rw [rg8_snoc]; rfl) | rfl), (by first | (rw [rep9]; rfl) | rfl), rfl, rfl, rfl, trivial⟩ ⟨(((((u11.nx u28).nx u34).next u42 (fun i hi (h : (i = gl ∧ w0.heap.size ≤ i)) => show w0.heap.size ≤ i by first | omega | assumption)).nx u47).next u55 (fun i hi (h : (i = gb ∧ w0.heap.size ≤ i)) => show w0.heap.size ≤ i by first | omega | assumption)), (by omega), (by rw [rg8_snoc]; exact D57), (by rw [rep9]; exact A54), (fun h => by have h9 : w0.heap.size ≤ gb38 := h; show gb38 ≠ gb51; omega)⟩
 have hkn : k = (1 + n + m) := by omega
 subst hkn
 have hil : (iniW (1 + n + m) fr).m.length = (1 + n + m) := hll
 have hib : (iniW (1 + n + m) fr).b.length = (1 + n + m) := hbl
 have hgl9 := hAl.ge (by rw [hll]; omega)
 have hgb9 := hAb.ge (by rw [hbl]; omega)
 refine go ?_
 have B60 := ((hgb.kx u6).keep u11 (show ¬ (w0.heap.size ≤ pg) by first | omega | assumption))
 refine x_c func120 rfl rfl (many_c pg (n : Int) ac m cc ar q cr ao xs.length ca _ B60 (by omega)) ?_
 rintro _ w62 ⟨rfl, u63⟩ zu63
 refine go ?_
 have D66 := (hAl.keep u63 (fun _ h => h))
 have D67 := (hAb.keep u63 (fun _ h => h))
 refine x_l2 (fun i => i = gl ∨ i = gb) [0, 33] (fun (j : Nat) (s : Rch) => [(4, .slice al s.m.length cl), (5, .slice ab s.b.length cb), (6, .int .i64 s.ring), (34, .int .i64 (j : Int))]) (fun j s w => (j ≤ (1 + n + m)) ∧ (s.m.length = (1 + n + m) ∧ s.b.length = (1 + n + m)) ∧ (Acc encI 1 3 w0.heap.size w al gl cl s.m) ∧ (Acc encI 1 3 w0.heap.size w ab gb cb s.b) ∧ (rchW (1 + n + m) xs fr = runW xs ((1 + n + m) - j) s) ∧ (okBd j s)) (fun j s => (1 + n + m) - j) 0 (iniW (1 + n + m) fr) ⟨(Nat.zero_le _), ⟨hil, hib⟩, D66, D67, rfl, okBd_ini⟩ ?_
 rintro j s w69 ⟨hj, hlen, hAl, hAb, hrun, hbd⟩ u70 zu70 K68 hK68
 have lt_gl := hAl.lt
 have lt_gb := hAb.lt
 refine go ?_
 refine q_p (fun g35 => ?_) fun g35 => ?_
 ·
  obtain ⟨hl1, hl2⟩ := hlen
  refine go ?_
  refine x_l1 (fun i => i = gl ∨ i = gb) [0, 33, 34, 39, 40] (fun (k : Nat) => [(4, .slice al ((pasW xs s k).m.length) cl), (5, .slice ab ((pasW xs s k).b.length) cb), (6, .int .i64 ((pasW xs s k).ring)), (41, .int .i64 (k : Int))]) (fun k w => (k ≤ xs.length) ∧ (Acc encI 1 3 w0.heap.size w al gl cl (pasW xs s k).m) ∧ (Acc encI 1 3 w0.heap.size w ab gb cb (pasW xs s k).b)) (fun k => xs.length - k) 0 ⟨(Nat.zero_le _), hAl, hAb⟩ ?_
  rintro k w79 ⟨hk, hAl, hAb⟩ u80 zu80 K78 hK78
  have lt_gl := hAl.lt
  have lt_gb := hAb.lt
  have hpl := pasW_len xs s k
  refine go ?_
  refine q_p (fun g42 => ?_) fun g42 => ?_
  ·
   have hxk := hx _ (nth_mem (xs := xs) (i := k) (by omega))
   unfold okLnk at hxk
   obtain ⟨hp1, hp2⟩ := hpl
   have hb1 := okBd_k hx hl1 hbd (by omega) hk hxl (v := (nth xs k).f.toNat) (by omega)
   have hb2 := okBd_k hx hl1 hbd (by omega) hk hxl (v := (nth xs k).t.toNat) (by omega)
   refine go ?_
   refine g_i k (hxs.keep ((((((Upd.refl (fun _ => False) w0).nx u6).next u11 (fun i hi (h : w0.heap.size ≤ i) => show False by first | omega | assumption)).nx u63).next u70 (fun i hi h => by omega)).next u80 (fun i hi h => by omega)) (fun _ h => h)) (fun _ => ?_)
   refine go ?_
   refine x_n fun bk87 w88 ebk87 sbk87 B89 u90 => ?_
   refine go ?_
   refine x_s fun w92 sw92 B94 u93 => ?_
   refine go ?_
   refine c_drawnM follows (fun _ => False) (OTl [0, 2, 4, 6, 8, 10, 12, 14, 16]) (by kernel_rfl) fun w97 u98 => ?_
   have zu98 := u98.size
   refine go ?_
   have D100 := (((hAl.keep u90 (fun _ h => h)).keep u93 (fun hb => show ¬ (gl = bk87) by first | omega | assumption)).keep u98 (fun _ h => h))
   refine y_i ((nth xs k).f.toNat) (D100.sl (fun _ => rfl)) (fun _ => ?_) (hj := (by omega))
   refine go ?_
   refine g_i ((nth xs k).f.toNat) (D100.sl (fun _ => rfl)) (fun _ => ?_) (hj := (by omega))
   refine go ?_
   refine t_splitp 60 rfl (fun g60 => ?_) (fun g60 => ?_)
   ·
    refine go ?_
    refine g_i ((nth xs k).t.toNat) (D100.sl (fun _ => rfl)) (fun _ => ?_) (hj := (by omega))
    refine go ?_
    refine q_p (fun g68 => ?_) fun g68 => ?_
    ·
     refine c_drawnM follows (fun i => i = gl ∨ i = gb) (OTl [0, 2, 4, 6, 8, 10, 12, 14, 16, 18, 20, 23, 24, 27, 28]) (by kernel_rfl) fun w105 u106 => ?_
     have zu106 := u106.size
     refine go ?_
     have D108 := (D100.keep u106 (fun _ h => h))
     refine y_i ((nth xs k).t.toNat) (D108.sl (fun _ => rfl)) (fun _ => ?_) (hj := (by omega))
     refine go ?_
     refine t_storeA (vs := [.int .i64 ((nth ((pasW xs s k).m) ((nth xs k).f.toNat)) + ((nth xs k).m))]) (j := (nth xs k).t.toNat) (o' := 0) (k := 1) ((nth ((pasW xs s k).m) ((nth xs k).f.toNat)) + ((nth xs k).m)) (fun _ => rfl) sizeOf3 rfl rfl (by omega) rfl D108 (by first | omega | (simp only [List.length_set]; omega)) rfl rfl (by decide) (by simp [Value.oneCell']) rfl (fun w110 R112 u111 => ?_)
     have zu111 := u111.size
     refine go ?_
     have D114 := ((((hAb.keep u90 (fun _ h => h)).keep u93 (fun hb => show ¬ (gb = bk87) by first | omega | assumption)).keep u98 (fun _ h => h)).keep u106 (fun _ h => h))
     refine y_i ((nth xs k).t.toNat) (D114.sl (fun _ => rfl)) (fun _ => ?_) (hj := (by omega))
     refine go ?_
     have D116 := (((((hAb.keep u90 (fun _ h => h)).keep u93 (fun hb => show ¬ (gb = bk87) by first | omega | assumption)).keep u98 (fun _ h => h)).keep u106 (fun _ h => h)).keep u111 (fun hb => show ¬ (gb = gl) by first | omega | assumption))
     refine t_storeA (vs := [.int .i64 (k : Int)]) (j := (nth xs k).t.toNat) (o' := 0) (k := 1) (k : Int) (fun _ => rfl) sizeOf3 rfl rfl (by omega) rfl D116 (by first | omega | (simp only [List.length_set]; omega)) rfl rfl (by decide) (by simp [Value.oneCell']) rfl (fun w117 R119 u118 => ?_)
     have zu118 := u118.size
     refine go ?_
     have hst : pasW xs s (k + 1) = ⟨(((pasW xs s k).m).set (nth xs k).t.toNat ((nth ((pasW xs s k).m) ((nth xs k).f.toNat)) + ((nth xs k).m))), (((pasW xs s k).b).set (nth xs k).t.toNat (k : Int)), (nth xs k).t⟩ := if_pos ⟨g60, g68⟩
     have D121 := (R112.keep u118 (fun hb => show ¬ (gl = gb) by first | omega | assumption))
     exact hK78 (k + 1) ⟨(by omega), (by rw [hst]; exact D121), (by rw [hst]; exact R119)⟩ (hs := by exact ⟨(by rw [hst]; first | rfl | (rw [List.length_set]; rfl)), (by rw [hst]; first | rfl | (rw [List.length_set]; rfl)), (by rw [hst]; first | rfl | (rw [List.length_set]; rfl)), rfl, rfl, rfl, rfl, rfl, rfl, trivial⟩)
    refine go ?_
    have hst : pasW xs s (k + 1) = (pasW xs s k) := if_neg (fun h9 => g68 h9.2)
    have D122 := (((hAb.keep u90 (fun _ h => h)).keep u93 (fun hb => show ¬ (gb = bk87) by first | omega | assumption)).keep u98 (fun _ h => h))
    exact hK78 (k + 1) ⟨(by omega), (by rw [hst]; exact D100), (by rw [hst]; exact D122)⟩ (hs := by exact ⟨(by rw [hst]; first | rfl | (rw [List.length_set]; rfl)), (by rw [hst]; first | rfl | (rw [List.length_set]; rfl)), (by rw [hst]; first | rfl | (rw [List.length_set]; rfl)), rfl, rfl, rfl, rfl, rfl, rfl, trivial⟩)
   refine go ?_
   have hst : pasW xs s (k + 1) = (pasW xs s k) := if_neg (fun h9 => g60 h9.1)
   have D123 := (((hAb.keep u90 (fun _ h => h)).keep u93 (fun hb => show ¬ (gb = bk87) by first | omega | assumption)).keep u98 (fun _ h => h))
   exact hK78 (k + 1) ⟨(by omega), (by rw [hst]; exact D100), (by rw [hst]; exact D123)⟩ (hs := by exact ⟨(by rw [hst]; first | rfl | (rw [List.length_set]; rfl)), (by rw [hst]; first | rfl | (rw [List.length_set]; rfl)), (by rw [hst]; first | rfl | (rw [List.length_set]; rfl)), rfl, rfl, rfl, rfl, rfl, rfl, trivial⟩)
  refine go ?_
  refine q_p (fun g83 => ?_) fun g83 => ?_
  ·
   refine go ?_
   refine f_ret3 (v1 := .slice al ((pasW xs s k).m.length) cl) (v2 := .slice ab ((pasW xs s k).b.length) cb) (v3 := .int .i64 ((pasW xs s k).ring)) results81 rfl rfl rfl ?_
   have hke : xs.length = k := by omega
   have hR9 : rchW (1 + n + m) xs fr = (pasW xs s k) := by rw [hrun, show (1 + n + m) - j = ((1 + n + m) - (j + 1)) + 1 by omega, runW, if_pos (by rw [hke]; exact g83), hke]
   rw [hR9]
   exact ⟨⟨al, gl, cl, ab, gb, cb, rfl, hAl, hAb⟩, u_d⟩
  refine go ?_
  have hke : xs.length = k := by omega
  have hpl9 := pasW_len xs s xs.length
  have hrn9 : runW xs ((1 + n + m) - j) s = runW xs ((1 + n + m) - (j + 1)) (pasW xs s xs.length) := by rw [show (1 + n + m) - j = ((1 + n + m) - (j + 1)) + 1 by omega, runW, if_neg (by rw [hke]; exact g83)]
  exact hK68 (j + 1) (pasW xs s xs.length) ⟨(by omega), ⟨by rw [hpl9.1]; exact hl1, by rw [hpl9.2]; exact hl2⟩, (by rw [hke]; exact hAl), (by rw [hke]; exact hAb), (hrun.trans hrn9), (okBd_pas hx hxl hl1 hbd)⟩ (hs := by exact ⟨(by rw [hke]; rfl), (by rw [hke]; rfl), (by rw [hke]; rfl), rfl, rfl, rfl, trivial⟩)
 refine go ?_
 refine f_ret3 (v1 := .slice al s.m.length cl) (v2 := .slice ab s.b.length cb) (v3 := .int .i64 s.ring) results81 rfl rfl rfl ?_
 have hR9 : rchW (1 + n + m) xs fr = s := by rw [hrun, show (1 + n + m) - j = 0 by omega]; rfl
 rw [hR9]
 exact ⟨⟨al, gl, cl, ab, gb, cb, rfl, hAl, hAb⟩, u_d⟩

end Go.Proofs.YtagmkfbbhfaceaaGreatDoor
