/-
  Part 10 of the proof: contracts and plain laws. Conditions: none.
-/
import Derived.Test.YtbcedieodibehaaGreatAK9
namespace Go.Proofs.YtbcedieodibehaaGreat
open Go Go.RowKit Go.Proofs.Tryz
set_option maxRecDepth 10000

theorem Sl.ofBlk {α : Type} [Inhabited α] {enc : α → List Value} {k : Nat} (hk : ∀ x, (enc x).length = k) {w : World} {b : Nat} {t : TypeId} {xs : List α} (h : Blk w b t (xs.flatMap enc)) : Sl enc k w (some ⟨b, 0, none⟩) b 0 xs :=
  ⟨fun _ => rfl, fun _ => h.lt, fun i hi j v hv => by
    have h1 := flatMap_at hk xs i j v hi hv
    rw [Nat.zero_add]
    exact h.get h1⟩
/-- A clue's options in memory. -/
structure HC where
  xs : List Opt
  ao : Option Addr
  b : Nat
  o : Nat
  cap : Nat
instance : Inhabited HC := ⟨⟨default, default, default, default, default⟩⟩
def encBcl (x : Bcl) : List Value := [.int .i64 x.lo, .int .i64 x.hi]
def encOpt (x : Opt) : List Value := [.int .i64 x.k, .int .i64 x.e, .int .i64 x.c, .int .i64 x.a, .int .i64 x.lo, .int .i64 x.hi]
def encHC (h : HC) : List Value := [.slice h.ao h.xs.length h.cap]
def encLnk (x : Lnk) : List Value := [.int .i64 x.f, .int .i64 x.t, .int .i64 x.m]
def okOptP (n m : Nat) (x : Opt) : Prop := (0 ≤ x.e ∧ x.e ≤ (n : Int) - 1) ∧ (x.lo ≤ x.hi ∧ -2000000 ≤ x.lo ∧ x.hi ≤ 2000000) ∧ ((x.k = 1 ∧ (0 ≤ x.c ∧ x.c ≤ (m : Int) - 1) ∧ x.a = 0) ∨ (x.k = 2 ∧ (0 ≤ x.a ∧ x.a ≤ (n : Int) - 1) ∧ x.a ≠ x.e ∧ x.c = 0))
def optH (h : HC) : Opt := nth h.xs 0
/-- A case in memory: each clue has one option, and all is valid. -/
structure CaM (w : World) (n : Nat) (cs : List Bcl) (ac : Option Addr) (bc oc : Nat) (rows : List HC) (ar : Option Addr) (br or_ : Nat) : Prop where
  c : Sl encBcl 2 w ac bc oc cs
  r : Sl encHC 1 w ar br or_ rows
  m : ∀ h ∈ rows, Sl encOpt 6 w h.ao h.b h.o h.xs ∧ h.xs.length = 1
  hn : 1 ≤ n ∧ n ≤ 20
  hc : cs.length ≤ 8
  hr : rows.length ≤ 20
  hb : ∀ b ∈ cs, b.lo ≤ b.hi ∧ -100000 ≤ b.lo ∧ b.hi ≤ 100000
  ho : ∀ h ∈ rows, okOptP n cs.length (optH h)
theorem CaM.ext {w w' : World} {n : Nat} {cs : List Bcl} {ac : Option Addr} {bc oc : Nat} {rows : List HC} {ar : Option Addr} {br or_ : Nat} (h : CaM w n cs ac bc oc rows ar br or_) (u : Ext w w') : CaM w' n cs ac bc oc rows ar br or_ :=
  ⟨h.c.keep u (fun _ q => q), h.r.keep u (fun _ q => q), fun x hx => ⟨(h.m x hx).1.keep u (fun _ q => q), (h.m x hx).2⟩, h.hn, h.hc, h.hr, h.hb, h.ho⟩
theorem any_noF {α : Type} (l : List α) : (l.any fun _ => false) = false := by simp
def osR (rows : List HC) : List Opt := rows.map optH
theorem opE_succ {k : Nat} : opE (k + 1) = opE k ++ lnk2 0 (1 + (k : Int)) 0 1000000 := by unfold opE; rw [List.range_succ, List.flatMap_append]; simp [lnkE]
theorem opE_len : ∀ {k : Nat}, (opE k).length = 2 * k
  | 0 => rfl
  | k + 1 => by rw [opE_succ, List.length_append, opE_len]; show 2 * k + 2 = _; omega
theorem opC_succ {n : Nat} {cs : List Bcl} {k : Nat} : opC n cs (k + 1) = opC n cs k ++ lnk2 0 (1 + (n : Int) + (k : Int)) (-(nth cs k).hi) (-(nth cs k).lo) := by unfold opC; rw [List.range_succ, List.flatMap_append]; simp [lnkC]
theorem opC_len {n : Nat} {cs : List Bcl} : ∀ {k : Nat}, (opC n cs k).length = 2 * k
  | 0 => rfl
  | k + 1 => by rw [opC_succ, List.length_append, opC_len]; show 2 * k + 2 = _; omega
theorem lnkO_len (n : Nat) (o : Opt) : (lnkO n o).length = 2 := by unfold lnkO; split <;> rfl
theorem opO_succ {n : Nat} {rows : List HC} {k : Nat} (h : k < rows.length) : opO n (osR rows) (k + 1) = opO n (osR rows) k ++ lnkO n (nth (nth rows k).xs 0) := by
  unfold opO osR
  rw [← List.map_take, ← List.map_take, take_nth h, List.map_append, List.flatMap_append]; simp [optH]
theorem opO_len {n : Nat} {rows : List HC} : ∀ {k : Nat}, k ≤ rows.length → (opO n (osR rows) k).length = 2 * k
  | 0, _ => rfl
  | k + 1, h => by rw [opO_succ (by omega), List.length_append, opO_len (by omega), lnkO_len]; omega
theorem own45 : Own Tryz.prog 45 := ⟨Tryz.f45, func45, by kernel_rfl, by kernel_rfl⟩
theorem own66 : Own Tryz.prog 66 := ⟨Tryz.f66, func66, by kernel_rfl, by kernel_rfl⟩
theorem own69 : Own Tryz.prog 69 := ⟨Tryz.f69, func69, by kernel_rfl, by kernel_rfl⟩
theorem own41 : Own Tryz.prog 41 := ⟨Tryz.f41, func41, by kernel_rfl, by kernel_rfl⟩
theorem wwithin1_c (lo hi n : Int) (b c : Nat) (t1 t2 : TypeId) (w0 : World) (hb : Blk w0 b t1 [.int .i64 lo]) (hc : Blk w0 c t2 [.int .i64 hi]) :
    CallsV Tryz.prog 45 [.int .i64 n, .pointer (some ⟨b, 0, none⟩), .pointer (some ⟨c, 0, none⟩)] w0 (fun v w' => v = .bool (out1 lo hi n) ∧ Ext w0 w') := by
 refine f_n func45 ?_
 refine go ?_
 refine t_splitp 8 rfl (fun g8 => ?_) (fun g8 => ?_)
 ·
  refine go ?_
  refine f_1 results45 ?_
  exact ⟨by simp [out1, *], u_d⟩
 refine go ?_
 refine f_1 results45 ?_
 exact ⟨by simp [out1, *], u_d⟩

theorem wwithin_c (lo hi : Int) (xs : List Int) (ao : Option Addr) (b o cap : Nat) (w0 : World) (hs : Sl encI 1 w0 ao b o xs) (hl : xs.length ≤ 1000000) :
    CallsV Tryz.prog 27 [.int .i64 lo, .int .i64 hi, .slice ao xs.length cap] w0 (fun v w' => v = .bool (decide (∀ n ∈ xs, lo ≤ n ∧ n ≤ hi)) ∧ Ext w0 w') := by
 refine f_n func27 ?_
 refine go ?_
 refine x_b fun bk2 w3 ebk2 sbk2 B4 u5 => ?_
 refine x_b fun bk7 w8 ebk7 sbk7 B9 u10 => ?_
 refine go ?_
 refine t_mkfunc (vs := []) (us := [.pointer (some ⟨bk2, 0, none⟩), .pointer (some ⟨bk7, 0, none⟩)]) rfl rfl rfl rfl ?_
 have B13 := (B4.kx u10)
 refine x_c func44 rfl rfl (containsI_c (out1 lo hi) 45 [.pointer (some ⟨bk2, 0, none⟩), .pointer (some ⟨bk7, 0, none⟩)] xs ao b o cap _ own45 (fun x _ w u => wwithin1_c lo hi x bk2 bk7 _ _ w (B13.keep u (fun h => h)) (B9.keep u (fun h => h))) (hs.keep (((Upd.refl (fun _ => False) w0).nx u5).nx u10) (fun _ h => h)) hl) ?_
 rintro _ w15 ⟨rfl, u16⟩ zu16
 refine go ?_
 refine f_1 results27 ?_
 exact ⟨by rw [not_any_out], u_d⟩

theorem ww1_t (lo hi m : Int) (b : Nat) (t : TypeId) (w : World) (h : Blk w b t [.int .i64 m]) (hr : (lo ≤ m ∧ m ≤ hi)) : CallsV Tryz.prog 27 [.int .i64 lo, .int .i64 hi, .slice (some ⟨b, 0, none⟩) 1 1] w (fun v w' => v = .bool true ∧ Ext w w') :=
  (wwithin_c lo hi [m] _ b 0 1 w (SlI.own (xs := [m]) h) (by simp)).mono fun v w' ⟨e, u⟩ => ⟨by rw [e]; simp; omega, u⟩

theorem ww2_t (lo hi m n : Int) (b : Nat) (t : TypeId) (w : World) (h : Blk w b t [.int .i64 m, .int .i64 n]) (hr : (lo ≤ m ∧ m ≤ hi) ∧ (lo ≤ n ∧ n ≤ hi)) : CallsV Tryz.prog 27 [.int .i64 lo, .int .i64 hi, .slice (some ⟨b, 0, none⟩) 2 2] w (fun v w' => v = .bool true ∧ Ext w w') :=
  (wwithin_c lo hi [m, n] _ b 0 2 w (SlI.own (xs := [m, n]) h) (by simp)).mono fun v w' ⟨e, u⟩ => ⟨by rw [e]; simp; omega, u⟩

theorem indexBc_c {α : Type} [Inhabited α] (enc : α → List Value) (hk : ∀ x, (enc x).length = 2) (p : α → Bool) (fv : FuncId) (caps : List Value) (xs : List α) (ao : Option Addr) (b o cap : Nat) (w0 : World) (ho : Own Tryz.prog fv) (hp : ∀ x ∈ xs, ∀ w, Ext w0 w → CallsV Tryz.prog fv ([.agg (enc x).toArray] ++ caps) w fun v w' => v = .bool (p x) ∧ Ext w w') (hs : Sl enc 2 w0 ao b o xs) (hl : xs.length ≤ 1000000) :
    CallsV Tryz.prog 97 [.slice ao xs.length cap, .func (.func fv) #[] (caps).toArray] w0 (fun v w' => (∃ n : Int, v = .int .i64 n ∧ decide (0 ≤ n) = xs.any p) ∧ Ext w0 w') := by
 refine f_n func97 ?_
 refine go ?_
 refine x_l1 (fun _ => False) [0, 1, 7] (fun (k : Nat) => [(8, .int .i64 (k : Int))]) (fun k w => (k ≤ xs.length) ∧ ((xs.take k).any p = false)) (fun k => xs.length - k) 0 ⟨Nat.zero_le _, (by simp)⟩ ?_
 rintro k w5 ⟨hle, hnot⟩ u6 zu6 K4 hK4
 have E7 := Sc.mk ((Upd.refl (fun _ => False) w0).nx u6)
 refine go ?_
 refine q_p (fun g9 => ?_) fun g9 => ?_
 ·
  refine go ?_
  refine g_i k (hs.keep E7.u (fun _ h => h)) (fun _ => ?_)
  refine t_loadN (vs := enc (nth xs k)) isAgg23 sizeOf23 rfl rfl rfl ((hs.keep E7.u (fun _ h => h)).at_ k (by omega)) (hk _) (t_call (fs := []) (cs := caps) ho rfl rfl rfl rfl (hp (nth xs k) (nth_mem (by omega)) _ E7.u) (fun v14 w15 r17 => ?_))
  obtain ⟨rfl, u16⟩ := r17
  have zu16 := u16.size
  refine go ?_
  refine q_b (fun g16 => ?_) fun g16 => ?_
  ·
   refine go ?_
   refine f_1 results97 ?_
   exact ⟨⟨_, rfl, any_hit (by omega) g16⟩, u_d⟩
  refine go ?_
  exact hK4 (k + 1) ⟨(by omega), (any_snoc (by omega) hnot g16)⟩
 refine go ?_
 refine f_1 results97 ?_
 exact ⟨⟨_, rfl, any_none (by omega) hnot⟩, u_d⟩

theorem containsBc_c {α : Type} [Inhabited α] (enc : α → List Value) (hk : ∀ x, (enc x).length = 2) (p : α → Bool) (fv : FuncId) (caps : List Value) (xs : List α) (ao : Option Addr) (b o cap : Nat) (w0 : World) (ho : Own Tryz.prog fv) (hp : ∀ x ∈ xs, ∀ w, Ext w0 w → CallsV Tryz.prog fv ([.agg (enc x).toArray] ++ caps) w fun v w' => v = .bool (p x) ∧ Ext w w') (hs : Sl enc 2 w0 ao b o xs) (hl : xs.length ≤ 1000000) :
    CallsV Tryz.prog 65 [.slice ao xs.length cap, .func (.func fv) #[] (caps).toArray] w0 (fun v w' => v = .bool (xs.any p) ∧ Ext w0 w') := by
 refine f_n func65 ?_
 refine go ?_
 refine x_c func97 rfl rfl (indexBc_c enc hk p fv caps xs ao b o cap _ ho hp hs hl) ?_
 rintro _ w4 ⟨⟨n, rfl, hn⟩, u5⟩ zu5
 refine go ?_
 refine f_1 results65 ?_
 exact ⟨by rw [hn], u_d⟩

theorem indexOp_c {α : Type} [Inhabited α] (enc : α → List Value) (hk : ∀ x, (enc x).length = 6) (p : α → Bool) (fv : FuncId) (caps : List Value) (xs : List α) (ao : Option Addr) (b o cap : Nat) (w0 : World) (ho : Own Tryz.prog fv) (hp : ∀ x ∈ xs, ∀ w, Ext w0 w → CallsV Tryz.prog fv ([.agg (enc x).toArray] ++ caps) w fun v w' => v = .bool (p x) ∧ Ext w w') (hs : Sl enc 6 w0 ao b o xs) (hl : xs.length ≤ 1000000) :
    CallsV Tryz.prog 98 [.slice ao xs.length cap, .func (.func fv) #[] (caps).toArray] w0 (fun v w' => (∃ n : Int, v = .int .i64 n ∧ decide (0 ≤ n) = xs.any p) ∧ Ext w0 w') := by
 refine f_n func98 ?_
 refine go ?_
 refine x_l1 (fun _ => False) [0, 1, 7] (fun (k : Nat) => [(8, .int .i64 (k : Int))]) (fun k w => (k ≤ xs.length) ∧ ((xs.take k).any p = false)) (fun k => xs.length - k) 0 ⟨Nat.zero_le _, (by simp)⟩ ?_
 rintro k w5 ⟨hle, hnot⟩ u6 zu6 K4 hK4
 have E7 := Sc.mk ((Upd.refl (fun _ => False) w0).nx u6)
 refine go ?_
 refine q_p (fun g9 => ?_) fun g9 => ?_
 ·
  refine go ?_
  refine g_i k (hs.keep E7.u (fun _ h => h)) (fun _ => ?_)
  refine t_loadN (vs := enc (nth xs k)) isAgg40 sizeOf40 rfl rfl rfl ((hs.keep E7.u (fun _ h => h)).at_ k (by omega)) (hk _) (t_call (fs := []) (cs := caps) ho rfl rfl rfl rfl (hp (nth xs k) (nth_mem (by omega)) _ E7.u) (fun v14 w15 r17 => ?_))
  obtain ⟨rfl, u16⟩ := r17
  have zu16 := u16.size
  refine go ?_
  refine q_b (fun g16 => ?_) fun g16 => ?_
  ·
   refine go ?_
   refine f_1 results98 ?_
   exact ⟨⟨_, rfl, any_hit (by omega) g16⟩, u_d⟩
  refine go ?_
  exact hK4 (k + 1) ⟨(by omega), (any_snoc (by omega) hnot g16)⟩
 refine go ?_
 refine f_1 results98 ?_
 exact ⟨⟨_, rfl, any_none (by omega) hnot⟩, u_d⟩

theorem containsOp_c {α : Type} [Inhabited α] (enc : α → List Value) (hk : ∀ x, (enc x).length = 6) (p : α → Bool) (fv : FuncId) (caps : List Value) (xs : List α) (ao : Option Addr) (b o cap : Nat) (w0 : World) (ho : Own Tryz.prog fv) (hp : ∀ x ∈ xs, ∀ w, Ext w0 w → CallsV Tryz.prog fv ([.agg (enc x).toArray] ++ caps) w fun v w' => v = .bool (p x) ∧ Ext w w') (hs : Sl enc 6 w0 ao b o xs) (hl : xs.length ≤ 1000000) :
    CallsV Tryz.prog 68 [.slice ao xs.length cap, .func (.func fv) #[] (caps).toArray] w0 (fun v w' => v = .bool (xs.any p) ∧ Ext w0 w') := by
 refine f_n func68 ?_
 refine go ?_
 refine x_c func98 rfl rfl (indexOp_c enc hk p fv caps xs ao b o cap _ ho hp hs hl) ?_
 rintro _ w4 ⟨⟨n, rfl, hn⟩, u5⟩ zu5
 refine go ?_
 refine f_1 results68 ?_
 exact ⟨by rw [hn], u_d⟩

theorem wvalid_c (lo hi m : Int) (w0 : World) (h : lo ≤ hi ∧ -m ≤ lo ∧ hi ≤ m) (hm : 0 ≤ m ∧ m ≤ 2000000) :
    CallsV Tryz.prog 67 [.agg #[.int .i64 lo, .int .i64 hi], .int .i64 m] w0 (fun v w' => v = .bool true ∧ Ext w0 w') := by
 refine f_n func67 ?_
 refine go ?_
 refine x_b fun bk2 w3 ebk2 sbk2 B4 u5 => ?_
 iterate 10 refine st1 ?_
 refine t_same 9 (v := .bool true) rfl (congrArg Value.bool (decide_eq_true (by omega))) ?_
 refine go ?_
 refine t_neg rfl rfl rfl (by omega) ?_
 refine go ?_
 refine x_l fun bk8 w9 ebk8 sbk8 B10 u11 => ?_
 refine x_c func27 rfl rfl (ww2_t (-m) m lo hi _ _ _ B10 (by omega)) ?_
 rintro _ w14 ⟨rfl, u15⟩ zu15
 refine go ?_
 refine f_1 results67 ?_
 exact ⟨rfl, u_d⟩

theorem wbad1_c (x : Bcl) (w0 : World) (h : x.lo ≤ x.hi ∧ -100000 ≤ x.lo ∧ x.hi ≤ 100000) :
    CallsV Tryz.prog 66 [.agg #[.int .i64 x.lo, .int .i64 x.hi]] w0 (fun v w' => v = .bool false ∧ Ext w0 w') := by
 refine f_n func66 ?_
 refine go ?_
 refine x_b fun bk2 w3 ebk2 sbk2 B4 u5 => ?_
 refine go ?_
 refine x_c func67 rfl rfl (wvalid_c x.lo x.hi 100000 _ (by omega) (by omega)) ?_
 rintro _ w9 ⟨rfl, u10⟩ zu10
 refine go ?_
 refine f_1 results66 ?_
 exact ⟨rfl, u_d⟩

theorem isOpt_c (n m q : Nat) (ac ar : Option Addr) (cc cr : Nat) (x : Opt) (w0 : World) (hx : okOptP n m x) (hn : 1 ≤ n ∧ n ≤ 20) (hm : m ≤ 8) :
    CallsV Tryz.prog 70 [.agg #[.int .i64 (n : Int), .slice ac m cc, .slice ar q cr], .agg #[.int .i64 x.k, .int .i64 x.e, .int .i64 x.c, .int .i64 x.a, .int .i64 x.lo, .int .i64 x.hi]] w0 (fun v w' => v = .bool true ∧ Ext w0 w') := by
 unfold okOptP at hx
 refine f_n func70 ?_
 refine go ?_
 refine x_b fun bk2 w3 ebk2 sbk2 B4 u5 => ?_
 refine x_b fun bk7 w8 ebk7 sbk7 B9 u10 => ?_
 refine go ?_
 refine x_l fun bk14 w15 ebk14 sbk14 B16 u17 => ?_
 refine x_c func27 rfl rfl (ww1_t 0 ((n : Int) - 1) x.e _ _ _ B16 (by omega)) ?_
 rintro _ w20 ⟨rfl, u21⟩ zu21
 refine go ?_
 refine x_c func67 rfl rfl (wvalid_c x.lo x.hi 2000000 _ (by omega) (by omega)) ?_
 rintro _ w25 ⟨rfl, u26⟩ zu26
 refine go ?_
 refine q_p (fun g21 => ?_) fun g21 => ?_
 ·
  refine go ?_
  refine x_l fun bk33 w34 ebk33 sbk33 B35 u36 => ?_
  refine x_c func27 rfl rfl (ww1_t 0 ((m : Int) - 1) x.c _ _ _ B35 (by omega)) ?_
  rintro _ w39 ⟨rfl, u40⟩ zu40
  iterate 4 refine st1 ?_
  refine t_same 34 (v := .bool true) rfl (congrArg Value.bool (decide_eq_true (by omega))) ?_
  refine go ?_
  refine f_1 results70 ?_
  exact ⟨rfl, u_d⟩
 refine go ?_
 refine q_p (fun g36 => ?_) fun g36 => ?_
 ·
  refine go ?_
  refine x_l fun bk45 w46 ebk45 sbk45 B47 u48 => ?_
  refine x_c func27 rfl rfl (ww1_t 0 ((n : Int) - 1) x.a _ _ _ B47 (by omega)) ?_
  rintro _ w51 ⟨rfl, u52⟩ zu52
  iterate 6 refine st1 ?_
  refine t_same 50 (v := .bool true) rfl (congrArg Value.bool (decide_eq_true (by omega))) ?_
  iterate 5 refine st1 ?_
  refine t_same 55 (v := .bool true) rfl (congrArg Value.bool (decide_eq_true (by omega))) ?_
  refine go ?_
  refine f_1 results70 ?_
  exact ⟨rfl, u_d⟩
 exfalso; omega

theorem wbad2_c (n m q : Nat) (ac ar : Option Addr) (cc cr : Nat) (x : Opt) (p : Nat) (w0 : World) (hp : Blk w0 p 36 [.int .i64 (n : Int), .slice ac m cc, .slice ar q cr]) (hx : okOptP n m x) (hn : 1 ≤ n ∧ n ≤ 20) (hm : m ≤ 8) :
    CallsV Tryz.prog 69 [.agg #[.int .i64 x.k, .int .i64 x.e, .int .i64 x.c, .int .i64 x.a, .int .i64 x.lo, .int .i64 x.hi], .pointer (some ⟨p, 0, none⟩)] w0 (fun v w' => v = .bool false ∧ Ext w0 w') := by
 refine f_n func69 ?_
 refine go ?_
 refine x_b fun bk2 w3 ebk2 sbk2 B4 u5 => ?_
 refine go ?_
 refine x_c func70 rfl rfl (isOpt_c n m q ac ar cc cr x _ hx hn hm) ?_
 rintro _ w9 ⟨rfl, u10⟩ zu10
 refine go ?_
 refine f_1 results69 ?_
 exact ⟨rfl, u_d⟩

theorem one9 {h : HC} (hl : h.xs.length = 1) {x : Opt} (hx : x ∈ h.xs) : x = optH h := by
  obtain ⟨xs, ao, b, o, cap⟩ := h
  match xs, hl, hx with
  | [y], _, hx => exact List.mem_singleton.1 hx

theorem wCheck_c (n : Nat) (cs : List Bcl) (ac : Option Addr) (bc oc cc : Nat) (rows : List HC) (ar : Option Addr) (br or_ cr : Nat) (w0 : World) (hc : CaM w0 n cs ac bc oc rows ar br or_) :
    CallsV Tryz.prog 40 [.agg #[.int .i64 (n : Int), .slice ac cs.length cc, .slice ar rows.length cr]] w0 (fun v w' => v = .int .i64 0 ∧ Ext w0 w') := by
 have hC := hc.c
 have hR := hc.r
 have hM := hc.m
 have hn1 := hc.hn
 have hcl := hc.hc
 have hrl := hc.hr
 have hcb := hc.hb
 have hob := hc.ho
 refine f_n func40 ?_
 refine go ?_
 refine x_b fun bk2 w3 ebk2 sbk2 B4 u5 => ?_
 refine go ?_
 refine x_l fun bk9 w10 ebk9 sbk9 B11 u12 => ?_
 refine x_c func27 rfl rfl (ww1_t 1 20 (n : Int) _ _ _ B11 (by omega)) ?_
 rintro _ w15 ⟨rfl, u16⟩ zu16
 have E18 := Sc.mk ((((Upd.refl (fun _ => False) w0).nx u5).nx u12).nx u16)
 iterate 6 refine st1 ?_
 refine t_same 14 (v := .bool false) rfl (congrArg Value.bool (decide_eq_false (by omega))) ?_
 iterate 6 refine st1 ?_
 refine t_same 20 (v := .bool false) rfl (congrArg Value.bool (decide_eq_false (by omega))) ?_
 refine go ?_
 refine x_c func65 rfl rfl (containsBc_c encBcl (fun _ => rfl) (fun _ => false) 66 [] cs ac bc oc cc _ own66 (fun x hx w _ => wbad1_c x w (hcb x hx)) (hC.keep E18.u (fun _ h => h)) (by omega)) ?_
 rintro _ w20 ⟨rfl, u21⟩ zu21
 refine t_same 25 (v := .bool false) rfl (congrArg Value.bool (any_noF _)) ?_
 refine go ?_
 refine x_l1 (fun _ => False) [1, 28, 29] (fun (k : Nat) => [(30, .int .i64 (k : Int))]) (fun k w => (k ≤ rows.length)) (fun k => rows.length - k) 0 (Nat.zero_le _) ?_
 rintro k w27 hk u28 zu28 K26 hK26
 have E29 := Sc.mk ((E18.u.nx u21).nx u28)
 refine go ?_
 refine q_p (fun g31 => ?_) fun g31 => ?_
 ·
  have hM1 := hM (nth rows k) (nth_mem (by omega))
  have hxl1 := hM1.2
  refine go ?_
  refine g_i k (hR.keep E29.u (fun _ h => h)) (fun _ => ?_)
  refine go ?_
  refine x_n fun bk35 w36 ebk35 sbk35 B37 u38 => ?_
  refine x_s fun w40 sw40 B42 u41 => ?_
  refine go ?_
  refine x_l fun bk45 w46 ebk45 sbk45 B47 u48 => ?_
  refine x_c func27 rfl rfl (ww1_t 1 3 ((nth rows k).xs.length : Int) _ _ _ B47 (by omega)) ?_
  rintro _ w51 ⟨rfl, u52⟩ zu52
  refine go ?_
  refine t_mkfunc (vs := []) (us := [.pointer (some ⟨bk2, 0, none⟩)]) rfl rfl rfl rfl ?_
  have B55 := ((((((((B4.kx u12).kx u16).kx u21).kx u28).kx u38).keep u41 (by omega)).kx u48).kx u52)
  refine x_c func68 rfl rfl (containsOp_c encOpt (fun _ => rfl) (fun _ => false) 69 [.pointer (some ⟨bk2, 0, none⟩)] (nth rows k).xs (nth rows k).ao (nth rows k).b (nth rows k).o (nth rows k).cap _ own69 (fun x hx w u => wbad2_c n cs.length rows.length ac ar cc cr x bk2 w (B55.keep u (fun h => h)) (by rw [one9 hM1.2 hx]; exact hob _ (nth_mem (by omega))) hn1 hcl) ((hM (nth rows k) (nth_mem (by omega))).1.keep ((((E29.u.nx u38).next u41 (fun i hi h => by omega)).nx u48).nx u52) (fun _ h => h)) (by rw [hM1.2]; omega)) ?_
  rintro _ w57 ⟨rfl, u58⟩ zu58
  refine t_same 44 (v := .bool false) rfl (congrArg Value.bool (any_noF _)) ?_
  refine go ?_
  exact hK26 (k + 1) (by omega)
 refine go ?_
 refine f_1 results40 ?_
 exact ⟨rfl, u_d⟩

theorem wCourse_c (n : Nat) (cs : List Bcl) (ac : Option Addr) (bc oc cc : Nat) (rows : List HC) (ar : Option Addr) (br or_ cr : Nat) (co : List Int) (aco : Option Addr) (bco oco cco : Nat) (w0 : World) (hc : CaM w0 n cs ac bc oc rows ar br or_) (hco : Sl encI 1 w0 aco bco oco co) (hcz : ∀ x ∈ co, x = 0) (hck : co.length = rows.length) :
    CallsV Tryz.prog 22 [.agg #[.int .i64 (n : Int), .slice ac cs.length cc, .slice ar rows.length cr], .slice aco co.length cco] w0 (fun v w' => v = .int .i64 0 ∧ Ext w0 w') := by
 have hC := hc.c
 have hR := hc.r
 have hM := hc.m
 have hn1 := hc.hn
 have hcl := hc.hc
 have hrl := hc.hr
 have hcb := hc.hb
 have hob := hc.ho
 refine f_n func22 ?_
 refine go ?_
 refine x_b fun bk2 w3 ebk2 sbk2 B4 u5 => ?_
 have E6 := Sc.mk ((Upd.refl (fun _ => False) w0).nx u5)
 refine go ?_
 refine x_c func40 rfl rfl (wCheck_c n cs ac bc oc cc rows ar br or_ cr _ (hc.ext E6.u)) ?_
 rintro _ w10 ⟨rfl, u11⟩ zu11
 iterate 13 refine st1 ?_
 refine t_same 17 (v := .bool false) rfl (congrArg Value.bool (decide_eq_false (by omega))) ?_
 refine go ?_
 refine x_l1 (fun _ => False) [2, 18, 19] (fun (k : Nat) => [(20, .int .i64 (k : Int))]) (fun k w => (k ≤ rows.length)) (fun k => rows.length - k) 0 (Nat.zero_le _) ?_
 rintro k w18 hk u19 zu19 K17 hK17
 have E20 := Sc.mk ((E6.u.nx u11).nx u19)
 refine go ?_
 refine q_p (fun g21 => ?_) fun g21 => ?_
 ·
  have hM1 := hM (nth rows k) (nth_mem (by omega))
  have hxl1 := hM1.2
  refine go ?_
  refine g_i k (hco.keep E20.u (fun _ h => h)) (fun _ => ?_)
  refine st1 ?_
  refine t_same 24 (v := .int .i64 0) rfl (congrArg (Value.int .i64) (hcz _ (nth_mem (by omega)))) ?_
  refine go ?_
  refine g_i k (hR.keep E20.u (fun _ h => h)) (fun _ => ?_)
  refine go ?_
  refine x_l fun bk28 w29 ebk28 sbk28 B30 u31 => ?_
  refine x_c func27 rfl rfl (ww1_t 0 (((nth rows k).xs.length : Int) - 1) 0 _ _ _ B30 (by omega)) ?_
  rintro _ w34 ⟨rfl, u35⟩ zu35
  refine go ?_
  exact hK17 (k + 1) (by omega)
 refine go ?_
 refine f_1 results22 ?_
 exact ⟨rfl, u_d⟩

theorem event_c (p : Option Addr) (i : Int) (w0 : World) (hi : 0 ≤ i ∧ i ≤ 1000) :
    CallsV Tryz.prog 26 [.pointer p, .int .i64 i] w0 (fun v w' => v = .int .i64 (1 + i) ∧ Ext w0 w') := by
 refine f_n func26 ?_
 refine go ?_
 refine f_1 results26 ?_
 exact ⟨rfl, u_d⟩

theorem clock_c (gb : Nat) (n i : Int) (ac : Option Addr) (m cc : Nat) (ar : Option Addr) (q cr : Nat) (ao : Option Addr) (la ca : Nat) (w0 : World) (hgb : Blk w0 gb 108 [.int .i64 n, .slice ac m cc, .slice ar q cr, .slice ao la ca]) (hi : (0 ≤ i ∧ i ≤ 1000) ∧ (0 ≤ n ∧ n ≤ 1000)) :
    CallsV Tryz.prog 42 [.pointer (some ⟨gb, 0, none⟩), .int .i64 i] w0 (fun v w' => v = .int .i64 (1 + n + i) ∧ Ext w0 w') := by
 refine f_n func42 ?_
 refine go ?_
 refine f_1 results42 ?_
 exact ⟨rfl, u_d⟩

theorem many_c (gb : Nat) (n : Int) (ac : Option Addr) (m cc : Nat) (ar : Option Addr) (q cr : Nat) (ao : Option Addr) (la ca : Nat) (w0 : World) (hgb : Blk w0 gb 108 [.int .i64 n, .slice ac m cc, .slice ar q cr, .slice ao la ca]) (hn : (0 ≤ n ∧ n ≤ 1000) ∧ m ≤ 1000) :
    CallsV Tryz.prog 58 [.pointer (some ⟨gb, 0, none⟩)] w0 (fun v w' => v = .int .i64 (1 + n + (m : Int)) ∧ Ext w0 w') := by
 refine f_n func58 ?_
 refine go ?_
 refine c_drawnM follows (fun _ => False) (OTl [0, 2, 4, 6, 8, 10, 12, 14, 16, 18, 20, 22, 24, 26]) (by kernel_rfl) fun w3 u4 => ?_
 have zu4 := u4.size
 refine go ?_
 refine f_1 results58 ?_
 exact ⟨rfl, u_d⟩

theorem wlink_c (gb : Nat) (n : Int) (ac : Option Addr) (m cc : Nat) (ar : Option Addr) (q cr : Nat) (base : Nat) (ao : Option Addr) (ga ca : Nat) (xs : List Lnk) (f t lo hi : Int) (w0 : World) (hgb : Blk w0 gb 108 [.int .i64 n, .slice ac m cc, .slice ar q cr, .slice ao xs.length ca]) (har : Acc encLnk 3 69 base w0 ao ga ca xs) (hb : base ≤ w0.heap.size) (hl : xs.length ≤ 10000) (hne : base ≤ ga → gb ≠ ga) (hlo : -2000000 ≤ lo ∧ lo ≤ 2000000) :
    CallsV Tryz.prog 41 [.pointer (some ⟨gb, 0, none⟩), .int .i64 f, .int .i64 t, .agg #[.int .i64 lo, .int .i64 hi]] w0 (fun v w' => v = .tuple #[] ∧ (∃ ao' ga' ca', Blk w' gb 108 [.int .i64 n, .slice ac m cc, .slice ar q cr, .slice ao' (List.length (xs ++ lnk2 f t lo hi)) ca'] ∧ Acc encLnk 3 69 base w' ao' ga' ca' (xs ++ lnk2 f t lo hi) ∧ (ga' = ga ∨ w0.heap.size ≤ ga')) ∧ Upd (fun i => i = gb ∨ (i = ga ∧ base ≤ i)) w0 w') := by
 have hgl := hgb.lt
 have hal := har.lt
 refine f_n func41 ?_
 refine go ?_
 refine x_b fun bk2 w3 ebk2 sbk2 B4 u5 => ?_
 refine go ?_
 refine c_drawnM follows (fun i => (i = ga ∧ base ≤ i) ∨ i = gb) (.look 0 (.look 1 (.look 2 (.look 3 (.look 5 (.look 6 (.look 7 (.look 8 (.look 9 (.look 10 (.look 11 (.look 12 (.look 13 (.look 14 (.look 15 (.act 4 (.act 16 (.act 17 (.look 18 (.look 19 (.act 20 .done .stop))) .stop) .stop) (.act 16 (.act 4 (.act 17 (.look 18 (.look 19 (.act 20 .done .stop))) .stop) .stop) .stop))))))))))))))))) (by kernel_rfl) fun w7 u8 => ?_
 have zu8 := u8.size
 refine go ?_
 refine y_neg rfl rfl rfl (by omega) ?_
 refine go ?_
 refine s_or ?_ ?_
 ·
  refine go ?_
  refine x_l fun bk10 w11 ebk10 sbk10 B12 u13 => ?_
  refine t_same 24 (v := .slice (some ⟨bk10, 0, none⟩) ((lnk2 f t lo hi).length) 2) rfl rfl ?_
  refine go ?_
  have D15 := (((har.keep u5 (fun _ h => h)).keep u8 (fun _ h => h)).keep u13 (fun _ h => h))
  refine t_appendAll (enc := encLnk) (z := .agg #[.int .i64 0, .int .i64 0, .int .i64 0]) (bytes := 24) (k := 3) (base := base) (xs := xs) (ys := (lnk2 f t lo hi)) underlying65 (by kernel_rfl) rfl (by decide) (fun _ => rfl) (by intro x; simp [encLnk, Value.oneCell']) rfl rfl rfl rfl D15 (Sl.ofBlk (enc := encLnk) (xs := lnk2 f t lo hi) (fun _ => rfl) B12) (by omega) (by omega) (by show 2 ≤ 1000000; decide) (by decide) (fun ao16 gb17 cp18 w19 A20 u21 gegb17 lngb17 => ?_)
  have zu21 := u21.size
  have lt_gb17 := A20.lt
  refine go ?_
  refine x_s fun w23 sw23 B25 u24 => ?_
  refine go ?_
  refine f_ret0 results41 ?_
  have D27 := (A20.keep u24 (fun hb => show ¬ (gb17 = gb) by first | omega | assumption))
  exact ⟨rfl, ⟨_, _, _, B25, D27, by omega⟩, u_d⟩
 refine go ?_
 refine x_l fun bk28 w29 ebk28 sbk28 B30 u31 => ?_
 refine t_same 24 (v := .slice (some ⟨bk28, 0, none⟩) ((lnk2 f t lo hi).length) 2) rfl rfl ?_
 refine go ?_
 have D33 := (((har.keep u5 (fun _ h => h)).keep u8 (fun _ h => h)).keep u31 (fun _ h => h))
 refine t_appendAll (enc := encLnk) (z := .agg #[.int .i64 0, .int .i64 0, .int .i64 0]) (bytes := 24) (k := 3) (base := base) (xs := xs) (ys := (lnk2 f t lo hi)) underlying65 (by kernel_rfl) rfl (by decide) (fun _ => rfl) (by intro x; simp [encLnk, Value.oneCell']) rfl rfl rfl rfl D33 (Sl.ofBlk (enc := encLnk) (xs := lnk2 f t lo hi) (fun _ => rfl) B30) (by omega) (by omega) (by show 2 ≤ 1000000; decide) (by decide) (fun ao34 gb35 cp36 w37 A38 u39 gegb35 lngb35 => ?_)
 have zu39 := u39.size
 have lt_gb35 := A38.lt
 refine go ?_
 refine x_s fun w41 sw41 B43 u42 => ?_
 refine go ?_
 refine f_ret0 results41 ?_
 have D45 := (A38.keep u42 (fun hb => show ¬ (gb35 = gb) by first | omega | assumption))
 exact ⟨rfl, ⟨_, _, _, B43, D45, by omega⟩, u_d⟩

end Go.Proofs.YtbcedieodibehaaGreat
namespace Go.Proofs.YtbcedieodibehaaGreat
open Go Go.RowKit Go.Proofs.Tryz
set_option maxRecDepth 10000
theorem opn_eq {n : Nat} {cs : List Bcl} {rows : List HC} : opnW n cs (osR rows) = opE n ++ opC n cs cs.length ++ opO n (osR rows) rows.length := by unfold opnW; rw [show (osR rows).length = rows.length from List.length_map ..]

set_option maxHeartbeats 4000000 in
theorem wopen_c (n : Nat) (cs : List Bcl) (ac : Option Addr) (bc oc cc : Nat) (rows : List HC) (ar : Option Addr) (br or_ cr : Nat) (co : List Int) (aco : Option Addr) (bco oco cco : Nat) (w0 : World) (hc : CaM w0 n cs ac bc oc rows ar br or_) (hco : Sl encI 1 w0 aco bco oco co) (hcz : ∀ x ∈ co, x = 0) (hck : co.length = rows.length) (hpos : 0 < w0.heap.size) :
    CallsV Tryz.prog 23 [.agg #[.int .i64 (n : Int), .slice ac cs.length cc, .slice ar rows.length cr], .slice aco co.length cco] w0 (fun v w' => (∃ gb ao ga ca base, v = .pointer (some ⟨gb, 0, none⟩) ∧ w0.heap.size ≤ gb ∧ gb < base ∧ base ≤ w'.heap.size ∧ Blk w' gb 108 [.int .i64 (n : Int), .slice ac cs.length cc, .slice ar rows.length cr, .slice ao (opnW n cs (osR rows)).length ca] ∧ Acc encLnk 3 69 base w' ao ga ca (opnW n cs (osR rows))) ∧ Ext w0 w') := by
 have hC := hc.c
 have hR := hc.r
 have hM := hc.m
 have hn1 := hc.hn
 have hcl := hc.hc
 have hrl := hc.hr
 have hcb := hc.hb
 have hob := hc.ho
 refine f_n func23 ?_
 refine go ?_
 refine x_b fun bk2 w3 ebk2 sbk2 B4 u5 => ?_
 refine go ?_
 refine x_b fun bk8 w9 ebk8 sbk8 B10 u11 => ?_
 refine go ?_
 refine x_l4 (fun i => i = bk8 ∨ w9.heap.size ≤ i) [1, 2, 5, 18] (fun (k : Nat) (ao : Option Addr) (ga : Nat) (ca : Nat) => [(19, .int .i64 (k : Int))]) (fun k ao ga ca w => Blk w bk8 108 [.int .i64 (n : Int), .slice ac cs.length cc, .slice ar rows.length cr, .slice ao ((opE k).length) ca] ∧ (k ≤ n) ∧ (Acc encLnk 3 69 w9.heap.size w ao ga ca (opE k))) (fun k ao ga ca => n - k) 0 none 0 0 ⟨B10, (Nat.zero_le _), (Acc.nil encLnk 3 69 w9.heap.size _ (by omega) (Nat.le_refl _))⟩ ?_
 rintro k ao ga ca w16 ⟨I18, hk, har⟩ u17 zu17 K15 hK15
 have lt_ga := har.lt
 have hek := opE_len (k := k)
 refine go ?_
 refine q_p (fun g20 => ?_) fun g20 => ?_
 ·
  have hst1 := opE_succ (k := k)
  refine go ?_
  refine x_c func26 rfl rfl (event_c _ (k : Int) _ (by omega)) ?_
  rintro _ w25 ⟨rfl, u26⟩ zu26
  refine go ?_
  have B30 := (I18.kx u26)
  have D31 := (har.keep u26 (fun _ h => h))
  refine t_call own41 rfl rfl rfl rfl (wlink_c bk8 (n : Int) ac cs.length cc ar rows.length cr w9.heap.size ao ga ca (opE k) 0 (1 + (k : Int)) 0 1000000 _ B30 D31 (by omega) (by omega) (by omega) (by omega)) (fun v32 w33 r35 => ?_)
  obtain ⟨rfl, ⟨aq29, gq29, cq29, hgq29, haq29, hhq29⟩, u34⟩ := r35
  have zu34 := u34.size
  have lt_gq29 := haq29.lt
  have hlbq29 := hgq29.lt
  refine go ?_
  exact hK15 (k + 1) aq29 gq29 cq29 ⟨(by rw [hst1]; exact hgq29), (by omega), (by rw [hst1]; exact haq29)⟩ (hu := ((u17.nx u26).next u34 (fun i hi (h : i = bk8 ∨ (i = ga ∧ w9.heap.size ≤ i)) => show i = bk8 ∨ w9.heap.size ≤ i by first | omega | assumption)))
 have hst0 : (opE n ++ opC n cs 0) = opE k := by rw [show k = n by omega]; exact List.append_nil _
 refine go ?_
 refine x_l4 (fun i => i = bk8 ∨ w9.heap.size ≤ i) [1, 2, 5, 30, 31] (fun (k : Nat) (ao : Option Addr) (ga : Nat) (ca : Nat) => [(32, .int .i64 (k : Int))]) (fun k ao ga ca w => Blk w bk8 108 [.int .i64 (n : Int), .slice ac cs.length cc, .slice ar rows.length cr, .slice ao ((opE n ++ opC n cs k).length) ca] ∧ (k ≤ cs.length) ∧ (Acc encLnk 3 69 w9.heap.size w ao ga ca (opE n ++ opC n cs k))) (fun k ao ga ca => cs.length - k) 0 ao ga ca ⟨(by rw [hst0]; exact I18), (Nat.zero_le _), (by rw [hst0]; exact har)⟩ ?_
 rintro k ao ga ca w40 ⟨I42, hk, har⟩ u41 zu41 K39 hK39
 have E43 := Sc.mk (((((Upd.refl (fun _ => False) w0).nx u5).nx u11).next u17 (fun i hi (h : i = bk8 ∨ w9.heap.size ≤ i) => show False by first | omega | assumption)).next u41 (fun i hi (h : i = bk8 ∨ w9.heap.size ≤ i) => show False by first | omega | assumption))
 have lt_ga := har.lt
 have hck9 := opC_len (n := n) (cs := cs) (k := k)
 have hek9 := opE_len (k := n)
 have hlk : (opE n ++ opC n cs k).length = 2 * n + 2 * k := by rw [List.length_append, hek9, hck9]
 refine go ?_
 refine q_p (fun g33 => ?_) fun g33 => ?_
 ·
  have hbk := hcb _ (nth_mem (xs := cs) (i := k) (by omega))
  have hst2 : (opE n ++ opC n cs (k + 1)) = (opE n ++ opC n cs k) ++ lnk2 0 (1 + (n : Int) + (k : Int)) (-(nth cs k).hi) (-(nth cs k).lo) := by rw [opC_succ, List.append_assoc]
  refine go ?_
  refine g_i k (hC.keep E43.u (fun _ h => h)) (fun _ => ?_)
  refine go ?_
  refine x_n fun bk49 w50 ebk49 sbk49 B51 u52 => ?_
  refine go ?_
  refine x_s fun w54 sw54 B56 u55 => ?_
  refine go ?_
  refine c_drawnM follows (fun i => i = bk8 ∨ (i = ga ∧ w9.heap.size ≤ i)) (OTl [0, 2, 4, 8, 10, 12, 14, 16, 18, 20, 7, 23]) (by kernel_rfl) fun w58 u59 => ?_
  have zu59 := u59.size
  refine go ?_
  refine y_neg rfl rfl rfl (by omega) ?_
  refine go ?_
  refine y_neg rfl rfl rfl (by omega) ?_
  refine go ?_
  have B61 := (((I42.kx u52).keep u55 (by omega)).kx u59)
  refine x_c func42 rfl rfl (clock_c bk8 (n : Int) (k : Int) ac cs.length cc ar rows.length cr ao ((opE n ++ opC n cs k).length) ca _ B61 (by omega)) ?_
  rintro _ w63 ⟨rfl, u64⟩ zu64
  refine go ?_
  have B68 := (B61.kx u64)
  have D69 := ((((har.keep u52 (fun _ h => h)).keep u55 (fun hb => show ¬ (ga = bk49) by first | omega | assumption)).keep u59 (fun _ h => h)).keep u64 (fun _ h => h))
  refine t_call own41 rfl rfl rfl rfl (wlink_c bk8 (n : Int) ac cs.length cc ar rows.length cr w9.heap.size ao ga ca (opE n ++ opC n cs k) 0 (1 + (n : Int) + (k : Int)) (-((nth cs k).hi)) (-((nth cs k).lo)) _ B68 D69 (by omega) (by omega) (by omega) (by omega)) (fun v70 w71 r73 => ?_)
  obtain ⟨rfl, ⟨aq67, gq67, cq67, hgq67, haq67, hhq67⟩, u72⟩ := r73
  have zu72 := u72.size
  have lt_gq67 := haq67.lt
  have hlbq67 := hgq67.lt
  refine go ?_
  exact hK39 (k + 1) aq67 gq67 cq67 ⟨(by rw [hst2]; exact hgq67), (by omega), (by rw [hst2]; exact haq67)⟩ (hu := (((((u41.nx u52).next u55 (fun i hi (h : i = bk49) => show i = bk8 ∨ w9.heap.size ≤ i by first | omega | assumption)).nx u59).nx u64).next u72 (fun i hi (h : i = bk8 ∨ (i = ga ∧ w9.heap.size ≤ i)) => show i = bk8 ∨ w9.heap.size ≤ i by first | omega | assumption)))
 have hst9 : (opE n ++ opC n cs cs.length ++ opO n (osR rows) 0) = (opE n ++ opC n cs k) := by rw [show k = cs.length by omega]; exact List.append_nil _
 refine go ?_
 refine x_l4 (fun i => i = bk8 ∨ w9.heap.size ≤ i) [2, 5, 50, 51] (fun (k : Nat) (ao : Option Addr) (ga : Nat) (ca : Nat) => [(52, .int .i64 (k : Int))]) (fun k ao ga ca w => Blk w bk8 108 [.int .i64 (n : Int), .slice ac cs.length cc, .slice ar rows.length cr, .slice ao ((opE n ++ opC n cs cs.length ++ opO n (osR rows) k).length) ca] ∧ (k ≤ rows.length) ∧ (Acc encLnk 3 69 w9.heap.size w ao ga ca (opE n ++ opC n cs cs.length ++ opO n (osR rows) k))) (fun k ao ga ca => rows.length - k) 0 ao ga ca ⟨(by rw [hst9]; exact I42), (Nat.zero_le _), (by rw [hst9]; exact har)⟩ ?_
 rintro k ao ga ca w78 ⟨I80, hk, har⟩ u79 zu79 K77 hK77
 have E81 := Sc.mk (E43.u.next u79 (fun i hi (h : i = bk8 ∨ w9.heap.size ≤ i) => show False by first | omega | assumption))
 have lt_ga := har.lt
 have hok9 := opO_len (n := n) (rows := rows) hk
 have hck9 := opC_len (n := n) (cs := cs) (k := cs.length)
 have hek9 := opE_len (k := n)
 have hlk : (opE n ++ opC n cs cs.length ++ opO n (osR rows) k).length = 2 * n + 2 * cs.length + 2 * k := by rw [List.length_append, List.length_append, hek9, hck9, hok9]
 refine go ?_
 refine q_p (fun g53 => ?_) fun g53 => ?_
 ·
  have hM1 := hM (nth rows k) (nth_mem (by omega))
  have hxl1 := hM1.2
  have hop := hob _ (nth_mem (xs := rows) (i := k) (by omega))
  unfold okOptP optH at hop
  have hst3a := opO_succ (n := n) (rows := rows) (k := k) (by omega)
  refine go ?_
  refine g_i k (hco.keep E81.u (fun _ h => h)) (fun _ => ?_)
  refine st1 ?_
  refine t_same 56 (v := .int .i64 0) rfl (congrArg (Value.int .i64) (hcz _ (nth_mem (by omega)))) ?_
  refine go ?_
  refine g_i k (hR.keep E81.u (fun _ h => h)) (fun _ => ?_)
  refine go ?_
  refine g_i 0 ((hM (nth rows k) (nth_mem (by omega))).1.keep E81.u (fun _ h => h)) (fun _ => ?_) (hj := (by omega))
  refine go ?_
  refine x_n fun bk90 w91 ebk90 sbk90 B92 u93 => ?_
  refine x_s fun w95 sw95 B97 u96 => ?_
  refine go ?_
  refine t_mkfunc (vs := [.pointer (some ⟨bk8, 0, none⟩)]) (us := []) rfl rfl rfl rfl ?_
  refine go ?_
  refine q_p (fun g72 => ?_) fun g72 => ?_
  ·
   have hst3 : (opE n ++ opC n cs cs.length ++ opO n (osR rows) (k + 1)) = (opE n ++ opC n cs cs.length ++ opO n (osR rows) k) ++ lnk2 (1 + (nth (nth rows k).xs 0).a) (1 + (nth (nth rows k).xs 0).e) (nth (nth rows k).xs 0).lo (nth (nth rows k).xs 0).hi := by rw [hst3a, ← List.append_assoc]; unfold lnkO; rw [if_pos g72]
   refine go ?_
   refine c_drawnM follows (fun _ => False) (OTl [0, 4, 6, 3, 8, 10]) (by kernel_rfl) fun w104 u105 => ?_
   have zu105 := u105.size
   refine go ?_
   refine t_mkfunc (vs := [.pointer (some ⟨bk8, 0, none⟩)]) (us := []) rfl rfl rfl rfl ?_
   refine go ?_
   refine c_drawnM follows (fun i => i = bk8 ∨ (i = ga ∧ w9.heap.size ≤ i)) (OTl [0, 2, 4, 8, 10, 12, 16, 18, 7, 15, 21]) (by kernel_rfl) fun w108 u109 => ?_
   have zu109 := u109.size
   refine go ?_
   refine x_c func26 rfl rfl (event_c _ ((nth ((nth rows k).xs) 0).a) _ (by omega)) ?_
   rintro _ w112 ⟨rfl, u113⟩ zu113
   refine go ?_
   refine x_c func26 rfl rfl (event_c _ ((nth ((nth rows k).xs) 0).e) _ (by omega)) ?_
   rintro _ w117 ⟨rfl, u118⟩ zu118
   refine go ?_
   have B122 := ((((((I80.kx u93).keep u96 (by omega)).kx u105).kx u109).kx u113).kx u118)
   have D123 := ((((((har.keep u93 (fun _ h => h)).keep u96 (fun hb => show ¬ (ga = bk90) by first | omega | assumption)).keep u105 (fun _ h => h)).keep u109 (fun _ h => h)).keep u113 (fun _ h => h)).keep u118 (fun _ h => h))
   refine t_call own41 rfl rfl rfl rfl (wlink_c bk8 (n : Int) ac cs.length cc ar rows.length cr w9.heap.size ao ga ca (opE n ++ opC n cs cs.length ++ opO n (osR rows) k) (1 + (nth ((nth rows k).xs) 0).a) (1 + (nth ((nth rows k).xs) 0).e) ((nth ((nth rows k).xs) 0).lo) ((nth ((nth rows k).xs) 0).hi) _ B122 D123 (by omega) (by omega) (by omega) (by omega)) (fun v124 w125 r127 => ?_)
   obtain ⟨rfl, ⟨aq121, gq121, cq121, hgq121, haq121, hhq121⟩, u126⟩ := r127
   have zu126 := u126.size
   have lt_gq121 := haq121.lt
   have hlbq121 := hgq121.lt
   refine go ?_
   exact hK77 (k + 1) aq121 gq121 cq121 ⟨(by rw [hst3]; exact hgq121), (by omega), (by rw [hst3]; exact haq121)⟩ (hu := (((((((u79.nx u93).next u96 (fun i hi (h : i = bk90) => show i = bk8 ∨ w9.heap.size ≤ i by first | omega | assumption)).nx u105).nx u109).nx u113).nx u118).next u126 (fun i hi (h : i = bk8 ∨ (i = ga ∧ w9.heap.size ≤ i)) => show i = bk8 ∨ w9.heap.size ≤ i by first | omega | assumption)))
  have hst3 : (opE n ++ opC n cs cs.length ++ opO n (osR rows) (k + 1)) = (opE n ++ opC n cs cs.length ++ opO n (osR rows) k) ++ lnk2 (1 + (n : Int) + (nth (nth rows k).xs 0).c) (1 + (nth (nth rows k).xs 0).e) (nth (nth rows k).xs 0).lo (nth (nth rows k).xs 0).hi := by rw [hst3a, ← List.append_assoc]; unfold lnkO; rw [if_neg g72]
  refine go ?_
  refine c_drawnM follows (fun i => i = bk8 ∨ (i = ga ∧ w9.heap.size ≤ i)) (OTl [0, 2, 4, 6, 10, 12, 14, 18, 20, 9, 17, 23]) (by kernel_rfl) fun w129 u130 => ?_
  have zu130 := u130.size
  refine go ?_
  have B132 := (((I80.kx u93).keep u96 (by omega)).kx u130)
  refine x_c func42 rfl rfl (clock_c bk8 (n : Int) ((nth ((nth rows k).xs) 0).c) ac cs.length cc ar rows.length cr ao ((opE n ++ opC n cs cs.length ++ opO n (osR rows) k).length) ca _ B132 (by omega)) ?_
  rintro _ w134 ⟨rfl, u135⟩ zu135
  refine go ?_
  refine x_c func26 rfl rfl (event_c _ ((nth ((nth rows k).xs) 0).e) _ (by omega)) ?_
  rintro _ w139 ⟨rfl, u140⟩ zu140
  refine go ?_
  have B144 := ((B132.kx u135).kx u140)
  have D145 := (((((har.keep u93 (fun _ h => h)).keep u96 (fun hb => show ¬ (ga = bk90) by first | omega | assumption)).keep u130 (fun _ h => h)).keep u135 (fun _ h => h)).keep u140 (fun _ h => h))
  refine t_call own41 rfl rfl rfl rfl (wlink_c bk8 (n : Int) ac cs.length cc ar rows.length cr w9.heap.size ao ga ca (opE n ++ opC n cs cs.length ++ opO n (osR rows) k) (1 + (n : Int) + (nth ((nth rows k).xs) 0).c) (1 + (nth ((nth rows k).xs) 0).e) ((nth ((nth rows k).xs) 0).lo) ((nth ((nth rows k).xs) 0).hi) _ B144 D145 (by omega) (by omega) (by omega) (by omega)) (fun v146 w147 r149 => ?_)
  obtain ⟨rfl, ⟨aq143, gq143, cq143, hgq143, haq143, hhq143⟩, u148⟩ := r149
  have zu148 := u148.size
  have lt_gq143 := haq143.lt
  have hlbq143 := hgq143.lt
  refine go ?_
  exact hK77 (k + 1) aq143 gq143 cq143 ⟨(by rw [hst3]; exact hgq143), (by omega), (by rw [hst3]; exact haq143)⟩ (hu := ((((((u79.nx u93).next u96 (fun i hi (h : i = bk90) => show i = bk8 ∨ w9.heap.size ≤ i by first | omega | assumption)).nx u130).nx u135).nx u140).next u148 (fun i hi (h : i = bk8 ∨ (i = ga ∧ w9.heap.size ≤ i)) => show i = bk8 ∨ w9.heap.size ≤ i by first | omega | assumption)))
 refine go ?_
 refine f_1 results23 ?_
 obtain rfl : k = rows.length := by omega
 exact ⟨⟨bk8, ao, ga, ca, w9.heap.size, rfl, by omega, by omega, by omega, by rw [opn_eq]; exact I80, by rw [opn_eq]; exact har⟩, u_d⟩

end Go.Proofs.YtbcedieodibehaaGreat
namespace Go.Proofs.YtbcedieodibehaaGreat
open Go Go.RowKit
theorem lay_get : ∀ (vs cs : List Value) (i q : Nat), i + vs.length ≤ cs.length → (lay cs i vs)[q]? = if i ≤ q ∧ q < i + vs.length then vs[q - i]? else cs[q]?
  | [], cs, i, q, _ => by rw [if_neg (by simp only [List.length_nil]; omega)]; rfl
  | v :: vs, cs, i, q, h => by
    have hl : i < cs.length := by simp at h; omega
    show (lay (cs.set i v) (i + 1) vs)[q]? = _
    rw [lay_get vs (cs.set i v) (i + 1) q (by simp at h ⊢; omega)]
    by_cases h1 : q = i
    · subst h1
      rw [if_neg (by omega), if_pos (by simp), List.getElem?_set_self hl]
      simp
    · by_cases h2 : i + 1 ≤ q ∧ q < i + 1 + vs.length
      · rw [if_pos h2, if_pos (by simp; omega), show q - i = (q - (i + 1)) + 1 by omega]
        rfl
      · rw [if_neg h2, if_neg (by simp; omega), List.getElem?_set_ne (by omega)]
/-- A block of the call's own whose first cells are the elements xs. -/
structure Wr {α : Type} [Inhabited α] (enc : α → List Value) (k : Nat) (e : TypeId) (w : World) (g : Nat) (xs : List α) : Prop where
  at_ : 0 < xs.length → ∃ cur : Array Value, w.heap[g]? = some (.cells cur e (0, 0)) ∧ xs.length * k ≤ cur.size ∧ ∀ i, i < xs.length → ∀ (r : Nat) (v : Value), (enc (nth xs i))[r]? = some v → cur[i * k + r]? = some v
section
variable {α : Type} [Inhabited α] {enc : α → List Value} {k : Nat} {e : TypeId} {w w' : World} {g : Nat} {xs : List α}
theorem Acc.wr {base : Nat} {ao : Option Addr} {cap : Nat} (h : Acc enc k e base w ao g cap xs) (hk : ∀ x, (enc x).length = k) : Wr enc k e w g xs := ⟨fun hp => by
  rcases h.at_ with ⟨_, h1, _⟩ | ⟨_, _, cur, hc, hl, _, hsz, htk⟩
  · subst h1; simp at hp
  · refine ⟨cur, hc, by rw [hsz]; exact Nat.mul_le_mul_right k hl, fun i hi r v hv => ?_⟩
    have h1 := flatMap_at hk xs i r v hi hv
    rw [← htk, List.getElem?_take] at h1
    split at h1
    · simpa using h1
    · cases h1⟩
theorem Wr.lt (h : Wr enc k e w g xs) (hp : 0 < xs.length) : g < w.heap.size := by
  obtain ⟨cur, hc, _⟩ := h.at_ hp
  exact (Array.getElem?_eq_some_iff.1 hc).1
theorem Wr.keep {S : Nat → Prop} (h : Wr enc k e w g xs) (u : Upd S w w') (hn : 0 < xs.length → ¬ S g) : Wr enc k e w' g xs := ⟨fun hp => by
  obtain ⟨cur, hc, hr⟩ := h.at_ hp
  exact ⟨cur, (u.block g (h.lt hp) (hn hp)).trans hc, hr⟩⟩
theorem Wr.sl {ao : Option Addr} (h : Wr enc k e w g xs) (ha : 0 < xs.length → ao = some ⟨g, 0, none⟩) : Sl enc k w ao g 0 xs :=
  ⟨ha, h.lt, fun i hi j v hv => by
    obtain ⟨cur, hc, hs, hr⟩ := h.at_ (by omega)
    have hB : Blk w g e cur.toList := by simpa [Blk] using hc
    rw [Nat.zero_add]
    exact hB.get (by simpa using hr i hi j v hv)⟩
end
section
variable {rd : Option Nat} {P : Program} {ops : Array Oper} {Q : Exit → Act → World → Prop} {N : Nat} {ds : List Deferred} {rest : List Oper} {L : Slots} {w : World}
variable {ty : TypeId} {pos : String} {aft : Array Edge} {gd : Option (Nat × Bool)}
/-- A quotient whose value is known. -/
theorem t_quoV {xt yt : TypeId} {x y : Operand} {d : Nat} {m n : Int} (q : Int) (hg : grd ops L gd = true) (hN : Nat.blt d N = true) (hx : ev L x = some (.int .i64 m)) (hy : ev L y = some (.int .i64 n)) (hn : n ≠ 0) (hq : m.tdiv n = q) (hr : -9223372036854775808 ≤ q ∧ q ≤ 9223372036854775807)
    (h : WL rd P ops Q N ds rest ((d, .int .i64 q) :: L) w) : WL rd P ops Q N ds (⟨some d, .binOp .quo xt x y yt, ty, pos, aft, gd⟩ :: rest) L w :=
  WL.value hg rfl hN (fun a ha => by
    have e1 := ha.ev hx
    have e2 := ha.ev hy
    have e3 : IntKind.i64.wrap (m.tdiv n) = q := by rw [hq]; exact IntWalk.i64_in _ hr
    simp [execOp, e1, e2, eqGuard, binOp, Op.intDiv, e3, hn]) h
end
end Go.Proofs.YtbcedieodibehaaGreat
namespace Go.Proofs.YtbcedieodibehaaGreat
open Go Go.RowKit
/-- A gathered slice, put together again from its elements. -/
theorem Acc.ofWr {α : Type} [Inhabited α] {enc : α → List Value} {k : Nat} {e : TypeId} {base : Nat} {w w' : World} {ao : Option Addr} {g cap : Nat} {xs ys : List α} (h : Acc enc k e base w ao g cap xs) (hk : ∀ x, (enc x).length = k) (hp : 0 < xs.length)
    (hw : Wr enc k e w' g ys) (hl : ys.length = xs.length) (hsz : ∀ cur : Array Value, w.heap[g]? = some (.cells cur e (0, 0)) → ∃ cur' : Array Value, w'.heap[g]? = some (.cells cur' e (0, 0)) ∧ cur'.size = cur.size) : Acc enc k e base w' ao g cap ys := by
  rcases h.at_ with ⟨_, h1, _⟩ | ⟨h1, h2, cur, h3, h4, h5, h6, _⟩
  · subst h1; simp at hp
  · obtain ⟨cur', hc, hs⟩ := hsz cur h3
    obtain ⟨cur2, hc2, hs2, hr⟩ := hw.at_ (by omega)
    rw [hc] at hc2
    injection hc2 with hc2
    injection hc2 with hc2
    subst hc2
    refine ⟨lt_of_block hc, .inr ⟨h1, h2, cur', hc, by omega, h5, by rw [hs, h6], ?_⟩⟩
    refine List.ext_getElem? fun q => ?_
    by_cases hq : q < ys.length * k
    · have hk0 : 0 < k := by
        rcases Nat.eq_zero_or_pos k with h | h
        · subst h; simp at hq
        · exact h
      have hi : q / k < ys.length := (Nat.div_lt_iff_lt_mul hk0).2 hq
      have hqr : q / k * k + q % k = q := by rw [Nat.mul_comm]; exact Nat.div_add_mod q k
      have hlt : q % k < (enc (nth ys (q / k))).length := by rw [hk]; exact Nat.mod_lt _ hk0
      have hv := List.getElem?_eq_getElem hlt
      have e1 := hr (q / k) hi (q % k) _ hv
      have e2 := flatMap_at hk ys (q / k) (q % k) _ hi hv
      rw [hqr] at e1 e2
      rw [List.getElem?_take, if_pos hq, e2]
      simpa using e1
    · rw [List.getElem?_eq_none (by rw [List.length_take]; omega), List.getElem?_eq_none (by rw [flatMap_len hk]; omega)]
theorem wr_set {α : Type} [Inhabited α] {enc : α → List Value} {k : Nat} {e : TypeId} {w w' : World} {g j o' off n : Nat} {xs : List α} {vs : List Value} {x' : α} {cur : List Value} (hk : ∀ x, (enc x).length = k) (hw : Wr enc k e w g xs) (hj : j < xs.length) (hB : Blk w g e cur) (hB' : Blk w' g e (lay cur off vs)) (hn : vs.length = n) (hl : o' + n ≤ k) (hx' : enc x' = lay (enc (nth xs j)) o' vs) (hoff : off = j * k + o') : Wr enc k e w' g (xs.set j x') := by
  subst hoff
  obtain ⟨cur2, hcur, hsz, hr⟩ := hw.at_ (by omega)
  have e1 : cur2 = cur.toArray := by
    have : w.heap[g]? = some (.cells cur.toArray e (0, 0)) := hB
    rw [hcur] at this
    injection this with this
    injection this with this
  subst e1
  have hjk : (j + 1) * k ≤ xs.length * k := Nat.mul_le_mul_right k hj
  rw [Nat.add_mul, Nat.one_mul] at hjk
  rw [List.size_toArray] at hsz
  have hle : j * k + o' + n ≤ cur.length := by omega
  refine ⟨fun hp => ⟨(lay cur (j * k + o') vs).toArray, hB', by rw [List.length_set, List.size_toArray, lay_length]; exact hsz, fun i hi r z hz => ?_⟩⟩
  rw [List.length_set] at hi
  rw [List.getElem?_toArray, lay_get _ _ _ _ (by rw [hn]; exact hle)]
  by_cases hij : i = j
  · subst hij
    rw [show nth (xs.set i x') i = x' by simp [nth, List.getD_eq_getElem?_getD, hi]] at hz
    rw [hx', lay_get _ _ _ _ (by rw [hn, hk]; exact hl)] at hz
    by_cases hc1 : o' ≤ r ∧ r < o' + vs.length
    · rw [if_pos hc1] at hz
      rw [if_pos (by omega), show i * k + r - (i * k + o') = r - o' by omega]; exact hz
    · rw [if_neg hc1] at hz
      rw [if_neg (by omega)]
      have := hr i hi r z hz
      simpa using this
  · rw [show nth (xs.set j x') i = nth xs i by simp [nth, List.getD_eq_getElem?_getD, List.getElem?_set_ne (Ne.symm hij)]] at hz
    have hrk : r < k := by
      have := (List.getElem?_eq_some_iff.1 hz).1
      rwa [hk] at this
    have := hr i hi r z hz
    rw [if_neg ?_]
    · simpa using this
    · intro hcc
      rcases Nat.lt_or_gt_of_ne hij with h1 | h1
      · have : (i + 1) * k ≤ j * k := Nat.mul_le_mul_right k h1
        rw [Nat.add_mul, Nat.one_mul] at this
        omega
      · have : (j + 1) * k ≤ i * k := Nat.mul_le_mul_right k h1
        rw [Nat.add_mul, Nat.one_mul] at this
        omega
section
variable {rd : Option Nat} {P : Program} {ops : Array Oper} {Q : Exit → Act → World → Prop} {N : Nat} {ds : List Deferred} {rest : List Oper} {L : Slots} {w : World}
variable {ty : TypeId} {pos : String} {aft : Array Edge} {gd : Option (Nat × Bool)}
/-- A store into an element of a gathered slice: the element is x'. -/
theorem t_storeA {α : Type} [Inhabited α] {enc : α → List Value} {k : Nat} {u e : TypeId} {x y : Operand} {base : Nat} {ao : Option Addr} {g cap j o' off n : Nat} {xs : List α} {vs : List Value} {v : Value} (x' : α) (hk : ∀ x, (enc x).length = k) (hs : ∀ w, (sizeOf u).run P w = .ok n w) (hg : grd ops L gd = true)
    (hx : ev L x = some (.pointer (some ⟨g, off, none⟩))) (hoff : off = j * k + o') (hy : ev L y = some v) (hw : Acc enc k e base w ao g cap xs) (hj : j < xs.length) (hc : v.cells = vs.toArray) (hn : vs.length = n) (hl : o' + n ≤ k) (hv : ∀ v ∈ vs, v.oneCell' = true) (hx' : enc x' = lay (enc (nth xs j)) o' vs)
    (h : ∀ w', Acc enc k e base w' ao g cap (xs.set j x') → Upd (· = g) w w' → WL rd P ops Q N ds rest L w') :
    WL rd P ops Q N ds (⟨none, .store u x y, ty, pos, aft, gd⟩ :: rest) L w := by
  have hwr := hw.wr hk
  obtain ⟨cur, hcur, hsz, hr⟩ := hwr.at_ (by omega)
  have hB : Blk w g e cur.toList := by simpa [Blk] using hcur
  have hjk : (j + 1) * k ≤ xs.length * k := Nat.mul_le_mul_right k hj
  rw [Nat.add_mul, Nat.one_mul] at hjk
  have hle : off + n ≤ cur.toList.length := by rw [Array.length_toList, hoff]; omega
  refine t_store (b := g) (t := e) hs hg hx hy hB hc hn hle hv fun w' hsize hB' hu => ?_
  refine h w' (hw.ofWr hk (by omega) (ys := xs.set j x') ?_ (by rw [List.length_set]) fun c2 hc2 => ?_) hu
  · exact wr_set hk hwr hj hB hB' hn hl hx' hoff
  · rw [hcur] at hc2
    injection hc2 with hc2
    injection hc2 with hc2
    subst hc2
    exact ⟨(lay cur.toList off vs).toArray, hB', by rw [List.size_toArray, lay_length, Array.length_toList]⟩
end
end Go.Proofs.YtbcedieodibehaaGreat
namespace Go.Proofs.YtbcedieodibehaaGreat
open Go Go.RowKit
/-- A slice in memory, what it holds. -/
structure Hl (α : Type) where
  xs : List α
  ao : Option Addr
  g : Nat
  o : Nat
  cp : Nat
instance {α : Type} : Inhabited (Hl α) := ⟨⟨[], none, 0, 0, 0⟩⟩
theorem Acc.ge {α : Type} {enc : α → List Value} {k : Nat} {e : TypeId} {base : Nat} {w : World} {ao : Option Addr} {g cap : Nat} {xs : List α} (h : Acc enc k e base w ao g cap xs) (hp : 0 < xs.length) : base ≤ g := by
  rcases h.at_ with ⟨_, h1, _⟩ | ⟨_, h2, _⟩
  · subst h1; simp at hp
  · exact h2
section
variable {α : Type} [Inhabited α] {p : α → Bool} {l : List α} {j k : Nat}
/-- What is kept of the first elements. -/
def kp (p : α → Bool) (l : List α) (j : Nat) : List α := (l.take j).filter fun x => !p x
/-- What DeleteFunc's slice holds when j elements are looked at. -/
def dl (p : α → Bool) (l : List α) (j : Nat) : List α := kp p l j ++ l.drop (kp p l j).length
omit [Inhabited α] in
end
section
variable {P : Program} {ops : Array Oper} {Q : Exit → Act → World → Prop} {N : Nat} {ds : List Deferred} {rest : List Oper} {L : Slots} {w : World} {rd : Option Nat} {d : Nat} {ty : TypeId} {pos : String} {aft : Array Edge} {g : Option (Nat × Bool)}
end
end Go.Proofs.YtbcedieodibehaaGreat
