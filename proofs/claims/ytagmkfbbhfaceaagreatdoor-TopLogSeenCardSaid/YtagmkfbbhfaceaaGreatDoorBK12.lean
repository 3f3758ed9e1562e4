/-
  Part 12 of the proof: contracts and plain laws. Conditions: none.
-/
import Derived.Test.YtagmkfbbhfaceaaGreatDoorBK11
namespace Go.Proofs.YtagmkfbbhfaceaaGreatDoor
open Go Go.RowKit Go.Proofs.Tryz
set_option maxRecDepth 10000

structure Hull where
  len : Int
  wid : Int
  mass : Int
instance : Inhabited Hull := ⟨⟨default, default, default⟩⟩
structure Bnd where
  lo : Int
  hi : Int
instance : Inhabited Bnd := ⟨⟨default, default⟩⟩
structure Row where
  long : Int
  wide : Int
  mass : Int
theorem own84 : Own Tryz.prog 84 := ⟨Tryz.f84, func84, by kernel_rfl, by kernel_rfl⟩
theorem within1_cV (lo hi n : Int) (b c : Nat) (t1 t2 : TypeId) (w0 : World) (hb : Blk w0 b t1 [.int .i64 lo]) (hc : Blk w0 c t2 [.int .i64 hi]) :
    CallsV Tryz.prog 84 [.int .i64 n, .pointer (some ⟨b, 0, none⟩), .pointer (some ⟨c, 0, none⟩)] w0 (fun v w' => v = .bool (out1 lo hi n) ∧ Ext w0 w') := by
 refine f_n func84 ?_
 refine go ?_
 refine t_splitp 8 rfl (fun g8 => ?_) (fun g8 => ?_)
 ·
  refine go ?_
  refine f_1 results84 ?_
  exact ⟨by simp [out1, *], u_d⟩
 refine go ?_
 refine f_1 results84 ?_
 exact ⟨by simp [out1, *], u_d⟩
theorem within_cV (lo hi : Int) (xs : List Int) (ao : Option Addr) (b o cap : Nat) (w0 : World) (hs : Sl encI 1 w0 ao b o xs) (hl : xs.length ≤ 1000000) :
    CallsV Tryz.prog 48 [.int .i64 lo, .int .i64 hi, .slice ao xs.length cap] w0 (fun v w' => v = .bool (decide (∀ n ∈ xs, lo ≤ n ∧ n ≤ hi)) ∧ Ext w0 w') := by
 refine f_n func48 ?_
 refine go ?_
 refine x_b fun bk2 w3 ebk2 sbk2 B4 u5 => ?_
 refine x_b fun bk7 w8 ebk7 sbk7 B9 u10 => ?_
 refine go ?_
 refine t_mkfunc (vs := []) (us := [.pointer (some ⟨bk2, 0, none⟩), .pointer (some ⟨bk7, 0, none⟩)]) rfl rfl rfl rfl ?_
 have B13 := (B4.kx u10)
 refine x_c func82 rfl rfl (containsI_c (out1 lo hi) 84 [.pointer (some ⟨bk2, 0, none⟩), .pointer (some ⟨bk7, 0, none⟩)] xs ao b o cap _ own84 (fun x _ w u => within1_cV lo hi x bk2 bk7 _ _ w (B13.keep u (fun h => h)) (B9.keep u (fun h => h))) (hs.keep (((Upd.refl (fun _ => False) w0).nx u5).nx u10) (fun _ h => h)) hl) ?_
 rintro _ w15 ⟨rfl, u16⟩ zu16
 refine go ?_
 refine f_1 results48 ?_
 exact ⟨by rw [not_any_out], u_d⟩

theorem within1_vV (lo hi n : Int) (b : Nat) (t : TypeId) (w : World) (h : Blk w b t [.int .i64 n]) :
    CallsV Tryz.prog 48 [.int .i64 lo, .int .i64 hi, .slice (some ⟨b, 0, none⟩) 1 1] w (fun v w' => v = .bool (decide (lo ≤ n ∧ n ≤ hi)) ∧ Ext w w') :=
  (within_cV lo hi [n] _ b 0 1 w (SlI.own (xs := [n]) h) (by simp)).mono fun v w' ⟨e, u⟩ => ⟨by rw [e]; simp, u⟩
theorem within2_vV (lo hi m n : Int) (b : Nat) (t : TypeId) (w : World) (h : Blk w b t [.int .i64 m, .int .i64 n]) :
    CallsV Tryz.prog 48 [.int .i64 lo, .int .i64 hi, .slice (some ⟨b, 0, none⟩) 2 2] w (fun v w' => v = .bool (decide ((lo ≤ m ∧ m ≤ hi) ∧ (lo ≤ n ∧ n ≤ hi))) ∧ Ext w w') :=
  (within_cV lo hi [m, n] _ b 0 2 w (SlI.own (xs := [m, n]) h) (by simp)).mono fun v w' ⟨e, u⟩ => ⟨by rw [e]; simp, u⟩
theorem isValid_c (lo hi a b : Int) (w0 : World) :
    CallsV Tryz.prog 47 [.int .i64 lo, .int .i64 hi, .agg #[.int .i64 a, .int .i64 b]] w0 (fun v w' => v = .bool (decide (a ≤ b ∧ (lo ≤ a ∧ a ≤ hi) ∧ (lo ≤ b ∧ b ≤ hi))) ∧ Ext w0 w') := by
 refine f_n func47 ?_
 refine go ?_
 refine x_b fun bk2 w3 ebk2 sbk2 B4 u5 => ?_
 refine go ?_
 refine t_splitp 12 rfl (fun g12 => ?_) (fun g12 => ?_)
 ·
  refine go ?_
  refine x_l fun bk8 w9 ebk8 sbk8 B10 u11 => ?_
  refine x_c func48 rfl rfl (within2_vV lo hi a b _ _ _ B10) ?_
  rintro _ w14 ⟨rfl, u15⟩ zu15
  refine go ?_
  refine f_1 results47 ?_
  exact ⟨by simp [*], u_d⟩
 refine go ?_
 refine f_1 results47 ?_
 exact ⟨by simp [*], u_d⟩
structure Run where
  frm : Int
  to : Int
  sp : Bnd
  wt : Bnd
instance : Inhabited Run := ⟨⟨default, default, default, default⟩⟩
structure Voy where
  st : Bnd
  runs : List Run
  len : Int
  wid : Int
instance : Inhabited Voy := ⟨⟨default, default, default, default⟩⟩
structure Nar where
  frm : Int
  to : Int
  wid : Int
  single : Bool
instance : Inhabited Nar := ⟨⟨default, default, default, default⟩⟩
def encRun (r : Run) : List Value := [.int .i64 r.frm, .int .i64 r.to, .int .i64 r.sp.lo, .int .i64 r.sp.hi, .int .i64 r.wt.lo, .int .i64 r.wt.hi]
def sgn (a b : Int) : Int := if b < a then -1 else 1
def tak (w s : Int) : Int := (60 * max w (-w) + s - 1) / s
def frst (v : Voy) : Int := (v.runs.map (·.frm)).headD 0
def lst (v : Voy) : Int := (v.runs.map (·.to)).getLastD 0
theorem frst_eq {v : Voy} (h : 0 < v.runs.length) : frst v = (nth v.runs 0).frm := by
  rw [nth_eq h]; unfold frst; rw [List.headD_eq_head?_getD, List.head?_eq_getElem?]; simp [h]
theorem lst_eq {v : Voy} (h : v.runs.length - 1 < v.runs.length) : lst v = (nth v.runs (v.runs.length - 1)).to := by
  rw [nth_eq h]; unfold lst; rw [List.getLastD_eq_getLast?, List.getLast?_eq_getElem?]; simp [h]
theorem sign_c (a b : Int) (w0 : World) :
    CallsV Tryz.prog 50 [.int .i64 a, .int .i64 b] w0 (fun v w' => v = .int .i64 (sgn a b) ∧ Ext w0 w') := by
 refine f_n func50 ?_
 refine go ?_
 refine q_p (fun g7 => ?_) fun g7 => ?_
 ·
  refine go ?_
  refine f_1 results50 ?_
  exact ⟨by simp [sgn, *], u_d⟩
 refine go ?_
 refine f_1 results50 ?_
 exact ⟨by simp [sgn, *], u_d⟩
theorem take_c (a s : Int) (w0 : World) (h1 : -1000000000 ≤ a ∧ a ≤ 1000000000) (h2 : 1 ≤ s ∧ s ≤ 1000000000) :
    CallsV Tryz.prog 89 [.int .i64 a, .int .i64 s] w0 (fun v w' => v = .int .i64 (tak a s) ∧ Ext w0 w') := by
 refine f_n func89 ?_
 refine go ?_
 refine t_neg rfl rfl rfl (by omega) (t_max rfl rfl rfl rfl ?_)
 refine go ?_
 refine t_quo rfl rfl rfl rfl (by omega) (by omega) ?_
 refine go ?_
 refine f_1 results89 ?_
 exact ⟨rfl, u_d⟩
theorem first_c (v : Voy) (ao : Option Addr) (b o cap : Nat) (w0 : World) (hs : Sl encRun 6 w0 ao b o v.runs) (hp : 0 < v.runs.length) :
    CallsV Tryz.prog 49 [.agg #[.int .i64 v.st.lo, .int .i64 v.st.hi, .slice ao ((v.runs).length) cap, .int .i64 v.len, .int .i64 v.wid]] w0 (fun x w' => x = .int .i64 (frst v) ∧ Ext w0 w') := by
 refine f_n func49 ?_
 refine go ?_
 refine x_b fun bk2 w3 ebk2 sbk2 B4 u5 => ?_
 refine go ?_
 refine g_i 0 (hs.keep ((Upd.refl (fun _ => False) w0).nx u5) (fun _ h => h)) (fun _ => ?_)
 refine go ?_
 refine f_1 results49 ?_
 exact ⟨by rw [frst_eq hp], u_d⟩
theorem last_c (v : Voy) (ao : Option Addr) (b o cap : Nat) (w0 : World) (hs : Sl encRun 6 w0 ao b o v.runs) (hp : 0 < v.runs.length) (hl : v.runs.length ≤ 1000000) :
    CallsV Tryz.prog 88 [.agg #[.int .i64 v.st.lo, .int .i64 v.st.hi, .slice ao ((v.runs).length) cap, .int .i64 v.len, .int .i64 v.wid]] w0 (fun x w' => x = .int .i64 (lst v) ∧ Ext w0 w') := by
 refine f_n func88 ?_
 refine go ?_
 refine x_b fun bk2 w3 ebk2 sbk2 B4 u5 => ?_
 refine go ?_
 refine g_i (v.runs.length - 1) (hs.keep ((Upd.refl (fun _ => False) w0).nx u5) (fun _ h => h)) (fun _ => ?_) (hj := (by omega))
 refine go ?_
 refine f_1 results88 ?_
 exact ⟨by rw [lst_eq (by omega)], u_d⟩
def onWay (v : Voy) (ps : List Int) : Bool := decide (∀ n ∈ ps, min (frst v) (lst v) ≤ n ∧ n ≤ max (frst v) (lst v))
theorem isOn_c (v : Voy) (ao : Option Addr) (b o cap : Nat) (ps : List Int) (ap : Option Addr) (bp op cp : Nat) (w0 : World) (hs : Sl encRun 6 w0 ao b o v.runs) (hp : 0 < v.runs.length) (hl : v.runs.length ≤ 1000000) (hps : Sl encI 1 w0 ap bp op ps) (hpl : ps.length ≤ 1000000) :
    CallsV Tryz.prog 52 [.agg #[.int .i64 v.st.lo, .int .i64 v.st.hi, .slice ao ((v.runs).length) cap, .int .i64 v.len, .int .i64 v.wid], .slice ap ps.length cp] w0 (fun x w' => x = .bool (onWay v ps) ∧ Ext w0 w') := by
 refine f_n func52 ?_
 refine go ?_
 refine x_b fun bk2 w3 ebk2 sbk2 B4 u5 => ?_
 refine go ?_
 refine c_drawnM follows (fun _ => False) (OTl [0, 4, 10, 14, 20, 3, 7, 8, 13, 17, 18, 23, 24]) (by kernel_rfl) fun w8 u9 => ?_
 have zu9 := u9.size
 have E10 := Sc.mk (((Upd.refl (fun _ => False) w0).nx u5).nx u9)
 refine go ?_
 refine x_c func49 rfl rfl (first_c v ao b o cap _ (hs.keep E10.u (fun _ h => h)) (by omega)) ?_
 rintro _ w12 ⟨rfl, u13⟩ zu13
 have E15 := Sc.mk (E10.u.nx u13)
 refine go ?_
 refine x_c func88 rfl rfl (last_c v ao b o cap _ (hs.keep E15.u (fun _ h => h)) (by omega) (by omega)) ?_
 rintro _ w17 ⟨rfl, u18⟩ zu18
 have E20 := Sc.mk (E15.u.nx u18)
 refine go ?_
 refine y_min rfl rfl rfl rfl ?_
 refine go ?_
 refine x_c func49 rfl rfl (first_c v ao b o cap _ (hs.keep E20.u (fun _ h => h)) (by omega)) ?_
 rintro _ w22 ⟨rfl, u23⟩ zu23
 have E25 := Sc.mk (E20.u.nx u23)
 refine go ?_
 refine x_c func88 rfl rfl (last_c v ao b o cap _ (hs.keep E25.u (fun _ h => h)) (by omega) (by omega)) ?_
 rintro _ w27 ⟨rfl, u28⟩ zu28
 refine go ?_
 refine y_max rfl rfl rfl rfl ?_
 refine go ?_
 refine x_c func48 rfl rfl (within_cV (min (frst v) (lst v)) (max (frst v) (lst v)) ps _ _ _ _ _ (hps.keep (E25.u.nx u28) (fun _ h => h)) hpl) ?_
 rintro _ w32 ⟨rfl, u33⟩ zu33
 refine go ?_
 refine f_1 results52 ?_
 exact ⟨rfl, u_d⟩

def okRun (a way : Int) (r : Run) : Bool := decide (((0 ≤ r.frm ∧ r.frm ≤ 100000) ∧ (0 ≤ r.to ∧ r.to ≤ 100000)) ∧ r.frm = a ∧ r.to ≠ a ∧ sgn r.frm r.to = way ∧
  (r.sp.lo ≤ r.sp.hi ∧ (1 ≤ r.sp.lo ∧ r.sp.lo ≤ 400) ∧ (1 ≤ r.sp.hi ∧ r.sp.hi ≤ 400)) ∧ (r.wt.lo ≤ r.wt.hi ∧ (0 ≤ r.wt.lo ∧ r.wt.lo ≤ 5000) ∧ (0 ≤ r.wt.hi ∧ r.wt.hi ≤ 5000)))
def okRuns (way : Int) : Int → List Run → Bool
  | _, [] => true
  | a, r :: rs => okRun a way r && okRuns way r.to rs
/-- All of a voyage but its runs. -/
def okVoy0 (v : Voy) : Bool := decide ((v.st.lo ≤ v.st.hi ∧ (0 ≤ v.st.lo ∧ v.st.lo ≤ 1000000) ∧ (0 ≤ v.st.hi ∧ v.st.hi ≤ 1000000)) ∧ (1 ≤ v.runs.length ∧ v.runs.length ≤ 20) ∧ (1 ≤ v.len ∧ v.len ≤ 3000) ∧ (1 ≤ v.wid ∧ v.wid ≤ 200))
def way0 (v : Voy) : Int := sgn (frst v) ((v.runs.map (·.to)).headD 0)
def okVoy (v : Voy) : Bool := okVoy0 v && okRuns (way0 v) (frst v) v.runs
def chk (v : Voy) : Int := if okVoy v then 0 else 2
theorem way0_eq {v : Voy} (h : 0 < v.runs.length) : way0 v = sgn (frst v) (nth v.runs 0).to := by
  rw [nth_eq h]; unfold way0; rw [List.headD_eq_head?_getD, List.head?_eq_getElem?]; simp [h]
theorem okRuns_drop {way a : Int} {rs : List Run} {k : Nat} (h : k < rs.length) : okRuns way a (rs.drop k) = (okRun a way (nth rs k) && okRuns way (nth rs k).to (rs.drop (k + 1))) := by
  rw [drop_nth h]; rfl
theorem chk_bad0 {v : Voy} (h : okVoy0 v = false) : chk v = 2 := by simp [chk, okVoy, h]
theorem chk_bad {v : Voy} {a : Int} {k : Nat} (hi : okRuns (way0 v) (frst v) v.runs = okRuns (way0 v) a (v.runs.drop k)) (h : k < v.runs.length) (hb : okRun a (way0 v) (nth v.runs k) = false) : chk v = 2 := by
  simp [chk, okVoy, hi, okRuns_drop h, hb]
theorem chk_next {v : Voy} {a : Int} {k : Nat} (hi : okRuns (way0 v) (frst v) v.runs = okRuns (way0 v) a (v.runs.drop k)) (h : k < v.runs.length) (hb : okRun a (way0 v) (nth v.runs k) = true) :
    okRuns (way0 v) (frst v) v.runs = okRuns (way0 v) (nth v.runs k).to (v.runs.drop (k + 1)) := by
  rw [hi, okRuns_drop h, hb]; simp
theorem chk_ok {v : Voy} {a : Int} {k : Nat} (h0 : okVoy0 v = true) (hi : okRuns (way0 v) (frst v) v.runs = okRuns (way0 v) a (v.runs.drop k)) (h : v.runs.length ≤ k) : chk v = 0 := by
  rw [List.drop_eq_nil_of_le h] at hi
  simp [chk, okVoy, h0, hi, okRuns]
set_option maxHeartbeats 4000000 in
theorem Check_c (v : Voy) (ao : Option Addr) (b o cap : Nat) (w0 : World) (hs : Sl encRun 6 w0 ao b o v.runs) (hl : v.runs.length ≤ 1000000) :
    CallsV Tryz.prog 15 [.agg #[.int .i64 v.st.lo, .int .i64 v.st.hi, .slice ao ((v.runs).length) cap, .int .i64 v.len, .int .i64 v.wid]] w0 (fun x w' => x = .int .i64 (chk v) ∧ Ext w0 w') := by
 refine f_n func15 ?_
 refine go ?_
 refine x_b fun bk2 w3 ebk2 sbk2 B4 u5 => ?_
 refine go ?_
 refine x_c func47 rfl rfl (isValid_c 0 1000000 v.st.lo v.st.hi _) ?_
 rintro _ w10 ⟨rfl, u11⟩ zu11
 refine go ?_
 refine t_splitp 11 rfl (fun g11 => ?_) (fun g11 => ?_)
 ·
  refine go ?_
  refine f_1 results15 ?_
  exact ⟨by rw [chk_bad0 (by unfold okVoy0; rw [decide_eq_false_iff_not]; intro h; omega)], u_d⟩
 refine go ?_
 refine x_l fun bk15 w16 ebk15 sbk15 B17 u18 => ?_
 refine x_c func48 rfl rfl (within1_vV 1 20 ((v.runs).length : Int) _ _ _ B17) ?_
 rintro _ w21 ⟨rfl, u22⟩ zu22
 refine go ?_
 refine t_splitp 19 rfl (fun g19 => ?_) (fun g19 => ?_)
 ·
  refine go ?_
  refine f_1 results15 ?_
  exact ⟨by rw [chk_bad0 (by unfold okVoy0; rw [decide_eq_false_iff_not]; intro h; omega)], u_d⟩
 refine go ?_
 refine x_l fun bk26 w27 ebk26 sbk26 B28 u29 => ?_
 refine x_c func48 rfl rfl (within1_vV 1 3000 v.len _ _ _ B28) ?_
 rintro _ w32 ⟨rfl, u33⟩ zu33
 refine go ?_
 refine t_splitp 26 rfl (fun g26 => ?_) (fun g26 => ?_)
 ·
  refine go ?_
  refine f_1 results15 ?_
  exact ⟨by rw [chk_bad0 (by unfold okVoy0; rw [decide_eq_false_iff_not]; intro h; omega)], u_d⟩
 refine go ?_
 refine x_l fun bk37 w38 ebk37 sbk37 B39 u40 => ?_
 refine x_c func48 rfl rfl (within1_vV 1 200 v.wid _ _ _ B39) ?_
 rintro _ w43 ⟨rfl, u44⟩ zu44
 refine go ?_
 refine q_p (fun g32 => ?_) fun g32 => ?_
 ·
  refine go ?_
  refine f_1 results15 ?_
  exact ⟨by rw [chk_bad0 (by unfold okVoy0; rw [decide_eq_false_iff_not]; intro h; omega)], u_d⟩
 refine go ?_
 refine c_drawnM follows (fun _ => False) (OTl [0, 4, 8, 10, 12, 14, 16, 3, 7, 19, 20, 22]) (by kernel_rfl) fun w49 u50 => ?_
 have zu50 := u50.size
 have E51 := Sc.mk ((((((((((Upd.refl (fun _ => False) w0).nx u5).nx u11).nx u18).nx u22).nx u29).nx u33).nx u40).nx u44).nx u50)
 refine go ?_
 refine y_i 0 (hs.keep E51.u (fun _ h => h)) (fun _ => ?_)
 refine go ?_
 refine x_c func49 rfl rfl (first_c v ao b o cap _ (hs.keep E51.u (fun _ h => h)) (by omega)) ?_
 rintro _ w54 ⟨rfl, u55⟩ zu55
 have E57 := Sc.mk (E51.u.nx u55)
 refine go ?_
 refine x_c func49 rfl rfl (first_c v ao b o cap _ (hs.keep E57.u (fun _ h => h)) (by omega)) ?_
 rintro _ w59 ⟨rfl, u60⟩ zu60
 refine go ?_
 refine x_c func50 rfl rfl (sign_c (frst v) ((nth v.runs 0).to) _) ?_
 rintro _ w64 ⟨rfl, u65⟩ zu65
 refine go ?_
 have hp : 0 < v.runs.length := by omega
 have h0 : okVoy0 v = true := by unfold okVoy0; rw [decide_eq_true_eq]; omega
 have hway := way0_eq hp
 refine x_l2 (fun _ => False) [4, 44, 45] (fun (k : Nat) (a : Int) => [(3, .int .i64 a), (46, .int .i64 (k : Int))]) (fun k a w => (k ≤ v.runs.length) ∧ (okRuns (way0 v) (frst v) v.runs = okRuns (way0 v) a (v.runs.drop k))) (fun k a => v.runs.length - k) 0 (frst v) ⟨Nat.zero_le _, rfl⟩ ?_
 rintro k a w71 ⟨hle, hinv⟩ u72 zu72 K70 hK70
 refine go ?_
 refine q_p (fun g47 => ?_) fun g47 => ?_
 ·
  refine go ?_
  refine g_i k (hs.keep (((E57.u.nx u60).nx u65).nx u72) (fun _ h => h)) (fun _ => ?_)
  refine go ?_
  refine x_n fun bk79 w80 ebk79 sbk79 B81 u82 => ?_
  refine x_s fun w84 sw84 B86 u85 => ?_
  refine go ?_
  refine x_l fun bk90 w91 ebk90 sbk90 B92 u93 => ?_
  refine x_c func48 rfl rfl (within2_vV 0 100000 ((nth v.runs k).frm) ((nth v.runs k).to) _ _ _ B92) ?_
  rintro _ w96 ⟨rfl, u97⟩ zu97
  refine go ?_
  refine t_splitp 57 rfl (fun g57 => ?_) (fun g57 => ?_)
  ·
   refine go ?_
   refine f_1 results15 ?_
   exact ⟨by rw [chk_bad hinv (by omega) (by unfold okRun; rw [decide_eq_false_iff_not]; intro h; omega)], u_d⟩
  refine go ?_
  refine t_splitp 63 rfl (fun g63 => ?_) (fun g63 => ?_)
  ·
   refine go ?_
   refine f_1 results15 ?_
   exact ⟨by rw [chk_bad hinv (by omega) (by unfold okRun; rw [decide_eq_false_iff_not]; intro h; omega)], u_d⟩
  refine go ?_
  refine t_splitp 69 rfl (fun g69 => ?_) (fun g69 => ?_)
  ·
   refine go ?_
   refine f_1 results15 ?_
   exact ⟨by rw [chk_bad hinv (by omega) (by unfold okRun; rw [decide_eq_false_iff_not]; intro h; omega)], u_d⟩
  refine go ?_
  refine x_c func50 rfl rfl (sign_c ((nth v.runs k).frm) ((nth v.runs k).to) _) ?_
  rintro _ w104 ⟨rfl, u105⟩ zu105
  refine go ?_
  refine t_splitp 78 rfl (fun g78 => ?_) (fun g78 => ?_)
  ·
   refine go ?_
   refine f_1 results15 ?_
   exact ⟨by rw [chk_bad hinv (by omega) (by unfold okRun; rw [decide_eq_false_iff_not]; intro h; omega)], u_d⟩
  refine go ?_
  refine x_c func47 rfl rfl (isValid_c 1 400 ((nth v.runs k).sp.lo) ((nth v.runs k).sp.hi) _) ?_
  rintro _ w110 ⟨rfl, u111⟩ zu111
  refine go ?_
  refine t_splitp 84 rfl (fun g84 => ?_) (fun g84 => ?_)
  ·
   refine go ?_
   refine f_1 results15 ?_
   exact ⟨by rw [chk_bad hinv (by omega) (by unfold okRun; rw [decide_eq_false_iff_not]; intro h; omega)], u_d⟩
  refine go ?_
  refine x_c func47 rfl rfl (isValid_c 0 5000 ((nth v.runs k).wt.lo) ((nth v.runs k).wt.hi) _) ?_
  rintro _ w116 ⟨rfl, u117⟩ zu117
  refine go ?_
  refine q_p (fun g89 => ?_) fun g89 => ?_
  ·
   refine go ?_
   refine f_1 results15 ?_
   exact ⟨by rw [chk_bad hinv (by omega) (by unfold okRun; rw [decide_eq_false_iff_not]; intro h; omega)], u_d⟩
  refine go ?_
  exact hK70 (k + 1) ((nth v.runs k).to) ⟨(by omega), (chk_next hinv (by omega) (by unfold okRun; rw [decide_eq_true_eq]; omega))⟩
 refine go ?_
 refine f_1 results15 ?_
 exact ⟨by rw [chk_ok h0 hinv (by omega)], u_d⟩
/-- A run whose numbers are in range. -/
def rngRun (r : Run) : Prop := (0 ≤ r.frm ∧ r.frm ≤ 100000) ∧ (0 ≤ r.to ∧ r.to ≤ 100000) ∧ (1 ≤ r.sp.lo ∧ r.sp.lo ≤ 400) ∧ (1 ≤ r.sp.hi ∧ r.sp.hi ≤ 400) ∧ (0 ≤ r.wt.lo ∧ r.wt.lo ≤ 5000) ∧ (0 ≤ r.wt.hi ∧ r.wt.hi ≤ 5000)
def wayTo (r : Run) (p : Int) : Int := if max (p - r.frm) (-(p - r.frm)) < max (r.to - r.frm) (-(r.to - r.frm)) then p - r.frm else r.to - r.frm
def arrGo (p : Int) : List Run → Bnd → Bnd
  | [], t => t
  | r :: rs, t => if r.frm = p then t else
    if r.frm + wayTo r p = p then ⟨t.lo + (r.wt.lo + tak (wayTo r p) r.sp.hi), t.hi + (r.wt.hi + tak (wayTo r p) r.sp.lo)⟩
    else arrGo p rs ⟨t.lo + (r.wt.lo + tak (wayTo r p) r.sp.hi), t.hi + (r.wt.hi + tak (wayTo r p) r.sp.lo)⟩
def arr (v : Voy) (p : Int) : Bnd := arrGo p v.runs v.st
theorem tak_rng {a s : Int} (h : max a (-a) ≤ 100000) (h1 : 1 ≤ s) (h2 : s ≤ 400) : 0 ≤ tak a s ∧ tak a s ≤ 6000400 := by
  unfold tak
  have h0 : 0 ≤ max a (-a) := by omega
  constructor
  · exact Int.ediv_nonneg (by omega) (by omega)
  · exact Int.le_trans (Int.ediv_le_self _ (by omega)) (by omega)
theorem wayTo_rng {r : Run} {p : Int} (h : rngRun r) : max (wayTo r p) (-(wayTo r p)) ≤ 100000 := by
  obtain ⟨h1, h2, _⟩ := h
  unfold wayTo
  split <;> omega
theorem arr_here {p : Int} {rs : List Run} {k : Nat} {t u : Bnd} (hi : u = arrGo p (rs.drop k) t) (h : k < rs.length) (hb : (nth rs k).frm = p) : u = t := by
  rw [hi, drop_nth h]; simp [arrGo, hb]
theorem arr_stop {p : Int} {rs : List Run} {k : Nat} {t u : Bnd} (hi : u = arrGo p (rs.drop k) t) (h : k < rs.length) (hb : ¬ (nth rs k).frm = p) (hc : (nth rs k).frm + wayTo (nth rs k) p = p) :
    u = ⟨t.lo + ((nth rs k).wt.lo + tak (wayTo (nth rs k) p) (nth rs k).sp.hi), t.hi + ((nth rs k).wt.hi + tak (wayTo (nth rs k) p) (nth rs k).sp.lo)⟩ := by
  rw [hi, drop_nth h]; simp [arrGo, hb, hc]
theorem arr_next {p : Int} {rs : List Run} {k : Nat} {t u : Bnd} (hi : u = arrGo p (rs.drop k) t) (h : k < rs.length) (hb : ¬ (nth rs k).frm = p) (hc : ¬ (nth rs k).frm + wayTo (nth rs k) p = p) :
    u = arrGo p (rs.drop (k + 1)) ⟨t.lo + ((nth rs k).wt.lo + tak (wayTo (nth rs k) p) (nth rs k).sp.hi), t.hi + ((nth rs k).wt.hi + tak (wayTo (nth rs k) p) (nth rs k).sp.lo)⟩ := by
  rw [hi, drop_nth h]; simp [arrGo, hb, hc]
theorem arr_end {p : Int} {rs : List Run} {k : Nat} {t u : Bnd} (hi : u = arrGo p (rs.drop k) t) (h : rs.length ≤ k) : u = t := by
  rw [hi, List.drop_eq_nil_of_le h]; rfl
set_option maxHeartbeats 4000000 in
theorem arrive_c (v : Voy) (ao : Option Addr) (b o cap : Nat) (p : Int) (w0 : World) (hs : Sl encRun 6 w0 ao b o v.runs) (hl : v.runs.length ≤ 1000) (hrun : ∀ r ∈ v.runs, rngRun r) (hst : (-1000000000 ≤ v.st.lo ∧ v.st.lo ≤ 1000000000) ∧ (-1000000000 ≤ v.st.hi ∧ v.st.hi ≤ 1000000000)) (hpl : -10000000 ≤ p ∧ p ≤ 10000000) :
    CallsV Tryz.prog 53 [.agg #[.int .i64 v.st.lo, .int .i64 v.st.hi, .slice ao ((v.runs).length) cap, .int .i64 v.len, .int .i64 v.wid], .int .i64 p] w0 (fun x w' => x = .agg #[.int .i64 (arr v p).lo, .int .i64 (arr v p).hi] ∧ Ext w0 w') := by
 refine f_n func53 ?_
 refine go ?_
 refine x_b fun bk2 w3 ebk2 sbk2 B4 u5 => ?_
 refine x_n fun bk7 w8 ebk7 sbk7 B9 u10 => ?_
 refine go ?_
 refine x_n fun bk13 w14 ebk13 sbk13 B15 u16 => ?_
 refine x_s fun w18 sw18 B20 u19 => ?_
 refine go ?_
 refine x_l2 (fun i => i = bk13) [1, 4, 5, 13, 14] (fun (k : Nat) (t : Bnd) => [(15, .int .i64 (k : Int))]) (fun k t w => Blk w bk13 34 [.int .i64 t.lo, .int .i64 t.hi] ∧ (k ≤ v.runs.length) ∧ (arr v p = arrGo p (v.runs.drop k) t) ∧ (-1000000000 ≤ t.lo ∧ t.lo ≤ 1000000000 + 6005400 * (k : Int)) ∧ (-1000000000 ≤ t.hi ∧ t.hi ≤ 1000000000 + 6005400 * (k : Int))) (fun k t => v.runs.length - k) 0 v.st ⟨B20, Nat.zero_le _, rfl, (by first | omega | (simp only []; omega)), (by first | omega | (simp only []; omega))⟩ ?_
 rintro k t w25 ⟨I27, hle, hinv, hlo, hhi⟩ u26 zu26 K24 hK24
 refine go ?_
 refine q_p (fun g16 => ?_) fun g16 => ?_
 ·
  refine go ?_
  refine g_i k (hs.keep ((((((Upd.refl (fun _ => False) w0).nx u5).nx u10).nx u16).next u19 (fun i hi h => by omega)).next u26 (fun i hi h => by omega)) (fun _ h => h)) (fun _ => ?_)
  refine go ?_
  obtain ⟨y1, y2, y3, y4, y5, y6⟩ := hrun _ (nth_mem (xs := v.runs) (i := k) (by omega))
  refine x_n fun bk34 w35 ebk34 sbk34 B36 u37 => ?_
  refine x_s fun w39 sw39 B41 u40 => ?_
  refine go ?_
  refine q_p (fun g22 => ?_) fun g22 => ?_
  ·
   refine go ?_
   refine x_s fun w46 sw46 B48 u47 => ?_
   refine go ?_
   refine f_ret1 (v := .agg #[.int .i64 t.lo, .int .i64 t.hi]) results53 ⟨_, _, rfl, run_loadVarN (vs := [.int .i64 t.lo, .int .i64 t.hi]) isAgg34 sizeOf34 rfl (B48.at.sub 0 2)⟩ ?_
   exact ⟨by rw [arr_here hinv (by omega) g22], u_d⟩
  iterate 12 refine st1 ?_
  refine x_k1 (fun _ => False) [1, 4, 5, 7, 13, 14, 15] (fun (_x : Unit) => [(8, .int .i64 (wayTo (nth v.runs k) p))]) (fun _x w => True) (fun K55 hK55 => ?_) ?_
  ·
   refine go ?_
   refine t_neg rfl rfl rfl (by omega) (t_max rfl rfl rfl rfl ?_)
   refine go ?_
   refine t_neg rfl rfl rfl (by omega) (t_max rfl rfl rfl rfl ?_)
   refine go ?_
   refine q_p (fun g40 => ?_) fun g40 => ?_
   ·
    refine go ?_
    exact hK55 () trivial (hs := by exact ⟨(by exact congrArg some (by simp [wayTo, g40])), rfl, rfl, rfl, rfl, rfl, rfl, rfl, trivial⟩)
   refine go ?_
   exact hK55 () trivial (hs := by exact ⟨(by exact congrArg some (by simp [wayTo, g40])), rfl, rfl, rfl, rfl, rfl, rfl, rfl, trivial⟩)
  rintro _x w56 _ u57 zu57
  have hr := hrun _ (nth_mem (xs := v.runs) (i := k) (by omega))
  have hw := wayTo_rng (p := p) hr
  obtain ⟨r1, r2, r3, r4, r5, r6⟩ := hr
  have q1 := tak_rng hw r4.1 r4.2
  have q2 := tak_rng hw r3.1 r3.2
  have q3 : v.runs.length ≤ 1000 := hl
  refine go ?_
  refine c_drawnM follows (fun i => i = bk13) (.look 0 (.look 2 (.look 3 (.look 4 (.look 5 (.look 6 (.look 7 (.look 8 (.act 1 (.act 9 (.look 10 (.look 11 (.look 12 (.act 13 .done .stop)))) .stop) (.act 9 (.look 10 (.act 1 (.look 11 (.look 12 (.act 13 .done .stop))) .stop)) .stop)))))))))) (by kernel_rfl) fun w62 u63 => ?_
  have zu63 := u63.size
  refine go ?_
  refine s_or ?_ ?_
  ·
   refine go ?_
   refine x_c func89 rfl rfl (take_c (wayTo (nth v.runs k) p) ((nth v.runs k).sp.hi) _ (by omega) (by omega)) ?_
   rintro _ w66 ⟨rfl, u67⟩ zu67
   refine go ?_
   refine x_s fun w70 sw70 B72 u71 => ?_
   refine go ?_
   refine c_drawnM follows (fun i => i = bk13) (.look 0 (.look 2 (.look 3 (.look 4 (.look 5 (.look 6 (.look 7 (.look 8 (.act 1 (.act 9 (.look 10 (.look 11 (.look 12 (.act 13 .done .stop)))) .stop) (.act 9 (.look 10 (.act 1 (.look 11 (.look 12 (.act 13 .done .stop))) .stop)) .stop)))))))))) (by kernel_rfl) fun w75 u76 => ?_
   have zu76 := u76.size
   refine go ?_
   refine s_or ?_ ?_
   ·
    refine go ?_
    refine x_c func89 rfl rfl (take_c (wayTo (nth v.runs k) p) ((nth v.runs k).sp.lo) _ (by omega) (by omega)) ?_
    rintro _ w79 ⟨rfl, u80⟩ zu80
    refine go ?_
    refine x_s fun w83 sw83 B85 u84 => ?_
    refine go ?_
    refine q_p (fun g73 => ?_) fun g73 => ?_
    ·
     refine go ?_
     refine x_s fun w89 sw89 B91 u90 => ?_
     refine go ?_
     refine f_ret1 (v := .agg #[.int .i64 (t.lo + ((nth v.runs k).wt.lo + (tak (wayTo (nth v.runs k) p) ((nth v.runs k).sp.hi)))), .int .i64 (t.hi + ((nth v.runs k).wt.hi + (tak (wayTo (nth v.runs k) p) ((nth v.runs k).sp.lo))))]) results53 ⟨_, _, rfl, run_loadVarN (vs := [.int .i64 (t.lo + ((nth v.runs k).wt.lo + (tak (wayTo (nth v.runs k) p) ((nth v.runs k).sp.hi)))), .int .i64 (t.hi + ((nth v.runs k).wt.hi + (tak (wayTo (nth v.runs k) p) ((nth v.runs k).sp.lo))))]) isAgg34 sizeOf34 rfl (B91.at.sub 0 2)⟩ ?_
     exact ⟨by rw [arr_stop hinv (by omega) g22 g73], u_d⟩
    refine go ?_
    exact hK24 (k + 1) (⟨(t.lo + ((nth v.runs k).wt.lo + (tak (wayTo (nth v.runs k) p) ((nth v.runs k).sp.hi)))), (t.hi + ((nth v.runs k).wt.hi + (tak (wayTo (nth v.runs k) p) ((nth v.runs k).sp.lo))))⟩) ⟨B85, (by omega), (arr_next hinv (by omega) g22 g73), (by show _ ≤ ((t.lo + ((nth v.runs k).wt.lo + (tak (wayTo (nth v.runs k) p) ((nth v.runs k).sp.hi)))) : Int) ∧ ((t.lo + ((nth v.runs k).wt.lo + (tak (wayTo (nth v.runs k) p) ((nth v.runs k).sp.hi)))) : Int) ≤ _; omega), (by show _ ≤ ((t.hi + ((nth v.runs k).wt.hi + (tak (wayTo (nth v.runs k) p) ((nth v.runs k).sp.lo)))) : Int) ∧ ((t.hi + ((nth v.runs k).wt.hi + (tak (wayTo (nth v.runs k) p) ((nth v.runs k).sp.lo)))) : Int) ≤ _; omega)⟩
   refine go ?_
   refine x_c func89 rfl rfl (take_c (wayTo (nth v.runs k) p) ((nth v.runs k).sp.lo) _ (by omega) (by omega)) ?_
   rintro _ w94 ⟨rfl, u95⟩ zu95
   refine go ?_
   refine x_s fun w98 sw98 B100 u99 => ?_
   refine go ?_
   refine q_p (fun g73 => ?_) fun g73 => ?_
   ·
    refine go ?_
    refine x_s fun w104 sw104 B106 u105 => ?_
    refine go ?_
    refine f_ret1 (v := .agg #[.int .i64 (t.lo + ((nth v.runs k).wt.lo + (tak (wayTo (nth v.runs k) p) ((nth v.runs k).sp.hi)))), .int .i64 (t.hi + ((nth v.runs k).wt.hi + (tak (wayTo (nth v.runs k) p) ((nth v.runs k).sp.lo))))]) results53 ⟨_, _, rfl, run_loadVarN (vs := [.int .i64 (t.lo + ((nth v.runs k).wt.lo + (tak (wayTo (nth v.runs k) p) ((nth v.runs k).sp.hi)))), .int .i64 (t.hi + ((nth v.runs k).wt.hi + (tak (wayTo (nth v.runs k) p) ((nth v.runs k).sp.lo))))]) isAgg34 sizeOf34 rfl (B106.at.sub 0 2)⟩ ?_
    exact ⟨by rw [arr_stop hinv (by omega) g22 g73], u_d⟩
   refine go ?_
   exact hK24 (k + 1) (⟨(t.lo + ((nth v.runs k).wt.lo + (tak (wayTo (nth v.runs k) p) ((nth v.runs k).sp.hi)))), (t.hi + ((nth v.runs k).wt.hi + (tak (wayTo (nth v.runs k) p) ((nth v.runs k).sp.lo))))⟩) ⟨B100, (by omega), (arr_next hinv (by omega) g22 g73), (by show _ ≤ ((t.lo + ((nth v.runs k).wt.lo + (tak (wayTo (nth v.runs k) p) ((nth v.runs k).sp.hi)))) : Int) ∧ ((t.lo + ((nth v.runs k).wt.lo + (tak (wayTo (nth v.runs k) p) ((nth v.runs k).sp.hi)))) : Int) ≤ _; omega), (by show _ ≤ ((t.hi + ((nth v.runs k).wt.hi + (tak (wayTo (nth v.runs k) p) ((nth v.runs k).sp.lo)))) : Int) ∧ ((t.hi + ((nth v.runs k).wt.hi + (tak (wayTo (nth v.runs k) p) ((nth v.runs k).sp.lo)))) : Int) ≤ _; omega)⟩
  refine go ?_
  refine x_c func89 rfl rfl (take_c (wayTo (nth v.runs k) p) ((nth v.runs k).sp.hi) _ (by omega) (by omega)) ?_
  rintro _ w109 ⟨rfl, u110⟩ zu110
  refine go ?_
  refine x_s fun w113 sw113 B115 u114 => ?_
  refine go ?_
  refine c_drawnM follows (fun i => i = bk13) (.look 0 (.look 2 (.look 3 (.look 4 (.look 5 (.look 6 (.look 7 (.look 8 (.act 1 (.act 9 (.look 10 (.look 11 (.look 12 (.act 13 .done .stop)))) .stop) (.act 9 (.look 10 (.act 1 (.look 11 (.look 12 (.act 13 .done .stop))) .stop)) .stop)))))))))) (by kernel_rfl) fun w118 u119 => ?_
  have zu119 := u119.size
  refine go ?_
  refine s_or ?_ ?_
  ·
   refine go ?_
   refine x_c func89 rfl rfl (take_c (wayTo (nth v.runs k) p) ((nth v.runs k).sp.lo) _ (by omega) (by omega)) ?_
   rintro _ w122 ⟨rfl, u123⟩ zu123
   refine go ?_
   refine x_s fun w126 sw126 B128 u127 => ?_
   refine go ?_
   refine q_p (fun g73 => ?_) fun g73 => ?_
   ·
    refine go ?_
    refine x_s fun w132 sw132 B134 u133 => ?_
    refine go ?_
    refine f_ret1 (v := .agg #[.int .i64 (t.lo + ((nth v.runs k).wt.lo + (tak (wayTo (nth v.runs k) p) ((nth v.runs k).sp.hi)))), .int .i64 (t.hi + ((nth v.runs k).wt.hi + (tak (wayTo (nth v.runs k) p) ((nth v.runs k).sp.lo))))]) results53 ⟨_, _, rfl, run_loadVarN (vs := [.int .i64 (t.lo + ((nth v.runs k).wt.lo + (tak (wayTo (nth v.runs k) p) ((nth v.runs k).sp.hi)))), .int .i64 (t.hi + ((nth v.runs k).wt.hi + (tak (wayTo (nth v.runs k) p) ((nth v.runs k).sp.lo))))]) isAgg34 sizeOf34 rfl (B134.at.sub 0 2)⟩ ?_
    exact ⟨by rw [arr_stop hinv (by omega) g22 g73], u_d⟩
   refine go ?_
   exact hK24 (k + 1) (⟨(t.lo + ((nth v.runs k).wt.lo + (tak (wayTo (nth v.runs k) p) ((nth v.runs k).sp.hi)))), (t.hi + ((nth v.runs k).wt.hi + (tak (wayTo (nth v.runs k) p) ((nth v.runs k).sp.lo))))⟩) ⟨B128, (by omega), (arr_next hinv (by omega) g22 g73), (by show _ ≤ ((t.lo + ((nth v.runs k).wt.lo + (tak (wayTo (nth v.runs k) p) ((nth v.runs k).sp.hi)))) : Int) ∧ ((t.lo + ((nth v.runs k).wt.lo + (tak (wayTo (nth v.runs k) p) ((nth v.runs k).sp.hi)))) : Int) ≤ _; omega), (by show _ ≤ ((t.hi + ((nth v.runs k).wt.hi + (tak (wayTo (nth v.runs k) p) ((nth v.runs k).sp.lo)))) : Int) ∧ ((t.hi + ((nth v.runs k).wt.hi + (tak (wayTo (nth v.runs k) p) ((nth v.runs k).sp.lo)))) : Int) ≤ _; omega)⟩
  refine go ?_
  refine x_c func89 rfl rfl (take_c (wayTo (nth v.runs k) p) ((nth v.runs k).sp.lo) _ (by omega) (by omega)) ?_
  rintro _ w137 ⟨rfl, u138⟩ zu138
  refine go ?_
  refine x_s fun w141 sw141 B143 u142 => ?_
  refine go ?_
  refine q_p (fun g73 => ?_) fun g73 => ?_
  ·
   refine go ?_
   refine x_s fun w147 sw147 B149 u148 => ?_
   refine go ?_
   refine f_ret1 (v := .agg #[.int .i64 (t.lo + ((nth v.runs k).wt.lo + (tak (wayTo (nth v.runs k) p) ((nth v.runs k).sp.hi)))), .int .i64 (t.hi + ((nth v.runs k).wt.hi + (tak (wayTo (nth v.runs k) p) ((nth v.runs k).sp.lo))))]) results53 ⟨_, _, rfl, run_loadVarN (vs := [.int .i64 (t.lo + ((nth v.runs k).wt.lo + (tak (wayTo (nth v.runs k) p) ((nth v.runs k).sp.hi)))), .int .i64 (t.hi + ((nth v.runs k).wt.hi + (tak (wayTo (nth v.runs k) p) ((nth v.runs k).sp.lo))))]) isAgg34 sizeOf34 rfl (B149.at.sub 0 2)⟩ ?_
   exact ⟨by rw [arr_stop hinv (by omega) g22 g73], u_d⟩
  refine go ?_
  exact hK24 (k + 1) (⟨(t.lo + ((nth v.runs k).wt.lo + (tak (wayTo (nth v.runs k) p) ((nth v.runs k).sp.hi)))), (t.hi + ((nth v.runs k).wt.hi + (tak (wayTo (nth v.runs k) p) ((nth v.runs k).sp.lo))))⟩) ⟨B143, (by omega), (arr_next hinv (by omega) g22 g73), (by show _ ≤ ((t.lo + ((nth v.runs k).wt.lo + (tak (wayTo (nth v.runs k) p) ((nth v.runs k).sp.hi)))) : Int) ∧ ((t.lo + ((nth v.runs k).wt.lo + (tak (wayTo (nth v.runs k) p) ((nth v.runs k).sp.hi)))) : Int) ≤ _; omega), (by show _ ≤ ((t.hi + ((nth v.runs k).wt.hi + (tak (wayTo (nth v.runs k) p) ((nth v.runs k).sp.lo)))) : Int) ∧ ((t.hi + ((nth v.runs k).wt.hi + (tak (wayTo (nth v.runs k) p) ((nth v.runs k).sp.lo)))) : Int) ≤ _; omega)⟩
 refine go ?_
 refine x_s fun w152 sw152 B154 u153 => ?_
 refine go ?_
 refine f_ret1 (v := .agg #[.int .i64 t.lo, .int .i64 t.hi]) results53 ⟨_, _, rfl, run_loadVarN (vs := [.int .i64 t.lo, .int .i64 t.hi]) isAgg34 sizeOf34 rfl (B154.at.sub 0 2)⟩ ?_
 exact ⟨by rw [arr_end hinv (by omega)], u_d⟩

structure RVoy (v : Voy) : Prop where
  pos : 0 < v.runs.length
  few : v.runs.length ≤ 1000
  run : ∀ r ∈ v.runs, rngRun r
  st : (-1000000000 ≤ v.st.lo ∧ v.st.lo ≤ 1000000000) ∧ (-1000000000 ≤ v.st.hi ∧ v.st.hi ≤ 1000000000)
  len : 0 ≤ v.len ∧ v.len ≤ 100000
  wid : 0 ≤ v.wid ∧ v.wid ≤ 100000
structure RNar (n : Nar) : Prop where
  frm : 0 ≤ n.frm ∧ n.frm ≤ 100000
  to : 0 ≤ n.to ∧ n.to ≤ 100000
  wid : 0 ≤ n.wid ∧ n.wid ≤ 100000
theorem okRuns_rng {way : Int} : ∀ {rs : List Run} {a : Int}, okRuns way a rs = true → ∀ r ∈ rs, rngRun r
  | [], _, _, r, h => by simp at h
  | x :: rs, a, h, r, hr => by
    simp only [okRuns, Bool.and_eq_true] at h
    rcases List.mem_cons.1 hr with rfl | hr
    · have := h.1
      unfold okRun at this
      rw [decide_eq_true_eq] at this
      obtain ⟨⟨h1, h2⟩, _, _, _, ⟨_, h3, h4⟩, ⟨_, h5, h6⟩⟩ := this
      exact ⟨h1, h2, h3, h4, h5, h6⟩
    · exact okRuns_rng h.2 r hr
theorem okVoy_of {v : Voy} (h : ¬ chk v ≠ 0) : okVoy v = true := by
  unfold chk at h; cases hv : okVoy v <;> simp [hv] at h ⊢
theorem okVoy_rng {v : Voy} (h : okVoy v = true) : RVoy v := by
  unfold okVoy at h
  rw [Bool.and_eq_true] at h
  have h0 := h.1
  unfold okVoy0 at h0
  rw [decide_eq_true_eq] at h0
  obtain ⟨⟨_, h1, h2⟩, h3, h4, h5⟩ := h0
  exact ⟨by omega, by omega, okRuns_rng h.2, ⟨by omega, by omega⟩, by omega, by omega⟩
theorem onWay_rng {v : Voy} {p : Int} (h : onWay v [p] = true) : min (frst v) (lst v) ≤ p ∧ p ≤ max (frst v) (lst v) := by
  unfold onWay at h; rw [decide_eq_true_eq] at h; exact h p (by simp)
theorem frst_rng {v : Voy} (h : okVoy v = true) : 0 ≤ frst v ∧ frst v ≤ 100000 := by
  have hr := okVoy_rng h
  rw [frst_eq hr.pos]
  exact (hr.run _ (nth_mem (xs := v.runs) (i := 0) hr.pos)).1
theorem lst_rng {v : Voy} (h : okVoy v = true) : 0 ≤ lst v ∧ lst v ≤ 100000 := by
  have hr := okVoy_rng h
  have hp := hr.pos
  rw [lst_eq (by omega)]
  exact (hr.run _ (nth_mem (xs := v.runs) (i := v.runs.length - 1) (by omega))).2.1
def tail (v : Voy) : Int := (v.len + 100 - 1) / 100
structure Stay where
  inn : Bnd
  out : Bnd
  there : Bool
instance : Inhabited Stay := ⟨⟨default, default, default⟩⟩
def ArrE (v : Voy) (p : Int) : Int := if okVoy v then (if onWay v [p] then 0 else 7) else 2
def ArrB (v : Voy) (p : Int) : Bnd := if okVoy v then (if onWay v [p] then arr v p else ⟨0, 0⟩) else ⟨0, 0⟩
theorem okVoy_bad {v : Voy} (h : chk v ≠ 0) : okVoy v = false := by unfold chk at h; cases hv : okVoy v <;> simp [hv] at h ⊢
theorem Arrive_c (v : Voy) (ao : Option Addr) (b o cap : Nat) (p : Int) (w0 : World) (hs : Sl encRun 6 w0 ao b o v.runs) (hl : v.runs.length ≤ 1000000) :
    CallsV Tryz.prog 18 [.agg #[.int .i64 v.st.lo, .int .i64 v.st.hi, .slice ao ((v.runs).length) cap, .int .i64 v.len, .int .i64 v.wid], .int .i64 p] w0 (fun x w' => x = .tuple #[.agg #[.int .i64 (ArrB v p).lo, .int .i64 (ArrB v p).hi], .int .i64 (ArrE v p)] ∧ Ext w0 w') := by
 refine f_n func18 ?_
 refine go ?_
 refine x_b fun bk2 w3 ebk2 sbk2 B4 u5 => ?_
 refine x_n fun bk7 w8 ebk7 sbk7 B9 u10 => ?_
 have E11 := Sc.mk (((Upd.refl (fun _ => False) w0).nx u5).nx u10)
 refine go ?_
 refine x_c func15 rfl rfl (Check_c v ao b o cap _ (hs.keep E11.u (fun _ h => h)) (by omega)) ?_
 rintro _ w15 ⟨rfl, u16⟩ zu16
 refine go ?_
 refine q_p (fun g6 => ?_) fun g6 => ?_
 ·
  refine go ?_
  refine x_s fun w20 sw20 B22 u21 => ?_
  refine go ?_
  refine f_ret2 (v1 := .agg #[.int .i64 0, .int .i64 0]) (v2 := .int .i64 2) results18 ⟨_, _, rfl, run_loadVarN (vs := [.int .i64 0, .int .i64 0]) isAgg34 sizeOf34 rfl (B22.at.sub 0 2)⟩ rfl ?_
  exact ⟨by simp [ArrB, ArrE, okVoy_bad g6], u_d⟩
 refine go ?_
 have hk := okVoy_of g6
 have hv := okVoy_rng hk
 refine go ?_
 refine x_l fun bk25 w26 ebk25 sbk25 B27 u28 => ?_
 have E29 := Sc.mk ((E11.u.nx u16).nx u28)
 refine x_c func52 rfl rfl (isOn_c v ao b o cap [p] _ _ 0 _ _ (hs.keep E29.u (fun _ h => h)) hv.pos (by have := hv.few; omega) (SlI.own (xs := [p]) B27) (by simp)) ?_
 rintro _ w31 ⟨rfl, u32⟩ zu32
 refine go ?_
 refine q_b (fun g11 => ?_) fun g11 => ?_
 ·
  refine go ?_
  refine x_s fun w36 sw36 B38 u37 => ?_
  refine go ?_
  refine f_ret2 (v1 := .agg #[.int .i64 0, .int .i64 0]) (v2 := .int .i64 7) results18 ⟨_, _, rfl, run_loadVarN (vs := [.int .i64 0, .int .i64 0]) isAgg34 sizeOf34 rfl (B38.at.sub 0 2)⟩ rfl ?_
  exact ⟨by simp_all [ArrB, ArrE], u_d⟩
 refine go ?_
 have ho : onWay v [p] = true := by simpa using g11
 have hp1 := onWay_rng ho
 have hp2 := frst_rng hk
 have hp3 := lst_rng hk
 refine go ?_
 refine x_c func53 rfl rfl (arrive_c v ao b o cap p _ (hs.keep (E29.u.nx u32) (fun _ h => h)) hv.few hv.run hv.st (by omega)) ?_
 rintro _ w42 ⟨rfl, u43⟩ zu43
 refine x_s fun w46 sw46 B48 u47 => ?_
 refine go ?_
 refine f_ret2 (v1 := .agg #[.int .i64 ((arr v p).lo), .int .i64 ((arr v p).hi)]) (v2 := .int .i64 0) results18 ⟨_, _, rfl, run_loadVarN (vs := [.int .i64 ((arr v p).lo), .int .i64 ((arr v p).hi)]) isAgg34 sizeOf34 rfl (B48.at.sub 0 2)⟩ rfl ?_
 exact ⟨by simp_all [ArrB, ArrE], u_d⟩

end Go.Proofs.YtagmkfbbhfaceaaGreatDoor
namespace Go.Proofs.YtagmkfbbhfaceaaGreatDoor
open Go Go.RowKit Go.Proofs.Tryz
set_option maxRecDepth 10000
structure RB (m p g s : Int) : Prop where
  m : 0 ≤ m ∧ m ≤ 400000
  p : 1 ≤ p ∧ p ≤ 20000
  g : 1 ≤ g ∧ g ≤ 1000
  s : 0 ≤ s ∧ s ≤ 500
theorem search_c (n : Int) (q : Int → Bool) (fv : FuncId) (caps : List Value) (w0 : World) (hn : 0 ≤ n ∧ n ≤ 1000000000) (ho : Own Tryz.prog fv) (hp : ∀ x, 0 ≤ x ∧ x < n → ∀ w, Ext w0 w → CallsV Tryz.prog fv ([.int .i64 x] ++ caps) w fun v w' => v = .bool (q x) ∧ Ext w w') :
    CallsV Tryz.prog 177 [.int .i64 n, .func (.func fv) #[] (caps).toArray] w0 (fun v w' => (∃ r : Int, v = .int .i64 r ∧ 0 ≤ r ∧ r ≤ n ∧ (0 < r → q (r - 1) = false) ∧ (r < n → q r = true)) ∧ Ext w0 w') := by
 refine f_n func177 ?_
 refine go ?_
 refine x_l2 (fun _ => False) [1] (fun (i : Int) (j : Int) => [(5, .int .i64 i), (6, .int .i64 j)]) (fun i j w => (0 ≤ i ∧ i ≤ j ∧ j ≤ n) ∧ (0 < i → q (i - 1) = false) ∧ (j < n → q j = true)) (fun i j => (j - i).toNat) 0 n ⟨(by first | omega | (simp only []; omega)), (by first | omega | (simp only []; omega)), (by first | omega | (simp only []; omega))⟩ ?_
 rintro i j w5 ⟨hij, hlo, hhi⟩ u6 zu6 K4 hK4
 refine go ?_
 refine q_p (fun g11 => ?_) fun g11 => ?_
 ·
  refine go ?_
  refine t_conv underlying3 underlying175 rfl rfl rfl (IntWalk.u64_in _ (by omega)) (t_shr1 rfl rfl rfl rfl (by omega) (t_conv underlying175 underlying3 rfl rfl rfl (IntWalk.i64_in _ (by omega)) ?_))
  refine go ?_
  refine t_call (fs := []) (cs := caps) ho rfl rfl rfl rfl (hp ((i + j) / 2) (by omega) _ ((Upd.refl (fun _ => False) w0).nx u6)) (fun v12 w13 r15 => ?_)
  obtain ⟨rfl, u14⟩ := r15
  have zu14 := u14.size
  refine go ?_
  refine q_b (fun g21 => ?_) fun g21 => ?_
  ·
   refine go ?_
   exact hK4 (((i + j) / 2) + 1) j ⟨(by show (0 : Int) ≤ (((i + j) / 2) + 1) ∧ ((((i + j) / 2) + 1) : Int) ≤ j ∧ (j : Int) ≤ n; omega), (by intro _; show q ((((i + j) / 2) + 1) - 1) = false; rw [Int.add_sub_cancel]; simpa using g21), hhi⟩
  refine go ?_
  exact hK4 i ((i + j) / 2) ⟨(by show (0 : Int) ≤ i ∧ (i : Int) ≤ ((i + j) / 2) ∧ (((i + j) / 2) : Int) ≤ n; omega), hlo, (by intro _; show q (((i + j) / 2)) = true; simpa using g21)⟩
 refine go ?_
 refine f_1 results177 ?_
 exact ⟨⟨_, rfl, by omega, by omega, hlo, fun h => by rw [show i = j from by omega] at h ⊢; exact hhi h⟩, u_d⟩

structure HRow where
  ao : Option Addr
  b : Nat
  o : Nat
  cap : Nat
  xs : List Hull
instance : Inhabited HRow := ⟨⟨default, default, default, default, default⟩⟩
structure Size where
  len : Int
  wid : Int
  mass : Int
  hulls : Int
instance : Inhabited Size := ⟨⟨default, default, default, default⟩⟩
def addH (r : Row) (h : Hull) : Row := ⟨max r.long h.len, r.wide + h.wid, r.mass + h.mass⟩
def rowOf (xs : List Hull) : Row := xs.foldl addH ⟨0, 0, 0⟩
def addRow (s : Size) (xs : List Hull) : Size := ⟨s.len + (rowOf xs).long, max s.wid (rowOf xs).wide, s.mass + (rowOf xs).mass, s.hulls + xs.length⟩
def sizeOf (boat : Hull) (rows : List (List Hull)) : Size := rows.foldl addRow ⟨boat.len, boat.wid, boat.mass, 0⟩
end Go.Proofs.YtagmkfbbhfaceaaGreatDoor
