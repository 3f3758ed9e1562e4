/-
  Contracts of the functions on one voyage. Conditions: none.
-/
import Derived.Test.YtmicjleiheoieaaA1
import Derived.Test.YtmicjleiheoieaaDraw
namespace Go.Proofs.Ytmicjleiheoieaa
open Go Go.RowKit
theorem follows : Try.prog.follows .mixedOrders = true := by kernel_rfl
structure Run where
  frm : Int
  to : Int
  sp : Bnd
  wt : Bnd
instance : Inhabited Run := ⟨⟨default, default, default, default⟩⟩
structure Voy where
  st : Bnd
  runs : List Run
  len : Int
  wid : Int
instance : Inhabited Voy := ⟨⟨default, default, default, default⟩⟩
structure Nar where
  frm : Int
  to : Int
  wid : Int
  single : Bool
instance : Inhabited Nar := ⟨⟨default, default, default, default⟩⟩
def encRun (r : Run) : List Value := [.int .i64 r.frm, .int .i64 r.to, .int .i64 r.sp.lo, .int .i64 r.sp.hi, .int .i64 r.wt.lo, .int .i64 r.wt.hi]
def encNar (n : Nar) : List Value := [.int .i64 n.frm, .int .i64 n.to, .int .i64 n.wid, .bool n.single]
def sgn (a b : Int) : Int := if b < a then -1 else 1
def tak (w s : Int) : Int := (60 * max w (-w) + s - 1) / s
def frst (v : Voy) : Int := (v.runs.map (·.frm)).headD 0
def lst (v : Voy) : Int := (v.runs.map (·.to)).getLastD 0
theorem frst_eq {v : Voy} (h : 0 < v.runs.length) : frst v = (nth v.runs 0).frm := by
  rw [nth_eq h]; unfold frst; rw [List.headD_eq_head?_getD, List.head?_eq_getElem?]; simp [h]
theorem lst_eq {v : Voy} (h : v.runs.length - 1 < v.runs.length) : lst v = (nth v.runs (v.runs.length - 1)).to := by
  rw [nth_eq h]; unfold lst; rw [List.getLastD_eq_getLast?, List.getLast?_eq_getElem?]; simp [h]

theorem own29 : Own Try.prog 29 := ⟨Try.f29, Try.func29, by kernel_rfl, by kernel_rfl⟩
theorem own30 : Own Try.prog 30 := ⟨Try.f30, Try.func30, by kernel_rfl, by kernel_rfl⟩
theorem own40 : Own Try.prog 40 := ⟨Try.f40, Try.func40, by kernel_rfl, by kernel_rfl⟩
theorem own41 : Own Try.prog 41 := ⟨Try.f41, Try.func41, by kernel_rfl, by kernel_rfl⟩
theorem own67 : Own Try.prog 67 := ⟨Try.f67, Try.func67, by kernel_rfl, by kernel_rfl⟩
theorem own69 : Own Try.prog 69 := ⟨Try.f69, Try.func69, by kernel_rfl, by kernel_rfl⟩
theorem own70 : Own Try.prog 70 := ⟨Try.f70, Try.func70, by kernel_rfl, by kernel_rfl⟩
theorem own76 : Own Try.prog 76 := ⟨Try.f76, Try.func76, by kernel_rfl, by kernel_rfl⟩
theorem own77 : Own Try.prog 77 := ⟨Try.f77, Try.func77, by kernel_rfl, by kernel_rfl⟩
theorem own78 : Own Try.prog 78 := ⟨Try.f78, Try.func78, by kernel_rfl, by kernel_rfl⟩
theorem own79 : Own Try.prog 79 := ⟨Try.f79, Try.func79, by kernel_rfl, by kernel_rfl⟩
theorem own102 : Own Try.prog 102 := ⟨Try.f102, Try.func102, by kernel_rfl, by kernel_rfl⟩

theorem sign_c (a b : Int) (w0 : World) :
    CallsV Try.prog 68 [.int .i64 a, .int .i64 b] w0 (fun v w' => v = .int .i64 (sgn a b) ∧ Ext w0 w') := by
 have E0 := Upd.refl (fun _ => False) w0
 refine f_enter (N := 8) Try.func68 rfl rfl rfl ?_
 change WC _ _ _ _ _ _ [(0, .int .i64 a), (1, .int .i64 b)] _
 refine c_seq fun K1 hK1 => (c_region (t_assign rfl rfl rfl (t_nil' (hK1 _ _ (c_seq fun K2 hK2 => (c_seq fun K3 hK3 => (c_region (t_move rfl rfl rfl (t_move rfl rfl rfl (t_cmp rfl rfl rfl rfl rfl (t_nil' (hK3 _ _ (c_condp rfl (fun g7 => ?_) (fun g7 => ?_))))))))))))))
 ·
  refine c_seq fun K4 hK4 => (c_region (t_assign rfl rfl rfl (t_nil' (hK4 _ _ (c_ret (f_ret1 (v := .int .i64 (-1)) Try.results68 rfl ?_))))))
  exact ⟨by simp [sgn, *], E0⟩
 ·
  refine c_skip (hK2 _ _ (c_seq fun K5 hK5 => (c_region (t_assign rfl rfl rfl (t_nil' (hK5 _ _ (c_ret (f_ret1 (v := .int .i64 1) Try.results68 rfl ?_))))))))
  exact ⟨by simp [sgn, *], E0⟩

theorem take_c (a s : Int) (w0 : World) (h1 : -1000000000 ≤ a ∧ a ≤ 1000000000) (h2 : 1 ≤ s ∧ s ≤ 1000000000) :
    CallsV Try.prog 103 [.int .i64 a, .int .i64 s] w0 (fun v w' => v = .int .i64 (tak a s) ∧ Ext w0 w') := by
 have E0 := Upd.refl (fun _ => False) w0
 refine f_enter (N := 15) Try.func103 rfl rfl rfl ?_
 change WC _ _ _ _ _ _ [(0, .int .i64 a), (1, .int .i64 s)] _
 refine c_seq fun K1 hK1 => (c_region (t_assign rfl rfl rfl (t_nil' (hK1 _ _ (c_seq fun K2 hK2 => (c_region (t_move rfl rfl rfl (t_move rfl rfl rfl (t_neg rfl rfl rfl (by omega) (t_max rfl rfl rfl rfl (t_ari rfl rfl rfl rfl rfl (by omega) (t_move rfl rfl rfl (t_ari rfl rfl rfl rfl rfl (by omega) (t_ari rfl rfl rfl rfl rfl (by omega) (t_move rfl rfl rfl (t_quo rfl rfl rfl rfl (by omega) (by omega) (t_assign rfl rfl rfl (t_nil' (hK2 _ _ (c_ret (f_ret1 (v := .int .i64 ((((60 * (max a (-a))) + s) - 1) / s)) Try.results103 rfl ?_)))))))))))))))))))))
 exact ⟨rfl, E0⟩

theorem first_c (v : Voy) (ao : Option Addr) (b o cap : Nat) (w0 : World) (hs : Sl encRun 6 w0 ao b o v.runs) (hp : 0 < v.runs.length) :
    CallsV Try.prog 67 [.agg #[.int .i64 v.st.lo, .int .i64 v.st.hi, .slice ao ((v.runs).length) cap, .int .i64 v.len, .int .i64 v.wid]] w0 (fun x w' => x = .int .i64 (frst v) ∧ Ext w0 w') := by
 have E0 := Upd.refl (fun _ => False) w0
 refine f_enter (N := 8) Try.func67 rfl rfl rfl ?_
 change WC _ _ _ _ _ _ [(0, .agg #[.int .i64 v.st.lo, .int .i64 v.st.hi, .slice ao ((v.runs).length) cap, .int .i64 v.len, .int .i64 v.wid])] _
 refine c_seq fun K1 hK1 => (c_region (t_box (cs := [.int .i64 v.st.lo, .int .i64 v.st.hi, .slice ao ((v.runs).length) cap, .int .i64 v.len, .int .i64 v.wid]) rfl rfl rfl rfl (fun bk2 w3 ebk2 sbk2 B4 u5 => ?_)))
 have zu5 := u5.size
 have E6 := E0.next u5 (fun _ _ h => h.elim)
 refine t_assign rfl rfl rfl (t_nil' (hK1 _ _ (c_seq fun K7 hK7 => (c_region (t_field Try.underlying48 rfl Try.sizeOf46 (2) rfl rfl rfl rfl (t_load Try.isAgg46 rfl rfl rfl (B4.get rfl) ?_))))))
 have i8 : 0 < v.runs.length := (by omega)
 refine t_index (j := 0) Try.underlying46 Try.sizeOf59 rfl rfl rfl rfl ((hs.keep E6 (fun _ h => h)).addr (by omega)) rfl i8 (t_field Try.underlying59 rfl Try.sizeOf3 (o + 0 * 6 + 0) rfl rfl rfl rfl (t_load Try.isAgg3 rfl rfl rfl (((hs.keep E6 (fun _ h => h)).at_ 0 (by omega)) 0 _ rfl) (t_assign rfl rfl rfl (t_nil' (hK7 _ _ (c_ret (f_ret1 (v := .int .i64 ((nth v.runs 0).frm)) Try.results67 rfl ?_)))))))
 exact ⟨by rw [frst_eq hp], E6⟩

theorem last_c (v : Voy) (ao : Option Addr) (b o cap : Nat) (w0 : World) (hs : Sl encRun 6 w0 ao b o v.runs) (hp : 0 < v.runs.length) (hl : v.runs.length ≤ 1000000) :
    CallsV Try.prog 102 [.agg #[.int .i64 v.st.lo, .int .i64 v.st.hi, .slice ao ((v.runs).length) cap, .int .i64 v.len, .int .i64 v.wid]] w0 (fun x w' => x = .int .i64 (lst v) ∧ Ext w0 w') := by
 have E0 := Upd.refl (fun _ => False) w0
 refine f_enter (N := 12) Try.func102 rfl rfl rfl ?_
 change WC _ _ _ _ _ _ [(0, .agg #[.int .i64 v.st.lo, .int .i64 v.st.hi, .slice ao ((v.runs).length) cap, .int .i64 v.len, .int .i64 v.wid])] _
 refine c_seq fun K1 hK1 => (c_region (t_box (cs := [.int .i64 v.st.lo, .int .i64 v.st.hi, .slice ao ((v.runs).length) cap, .int .i64 v.len, .int .i64 v.wid]) rfl rfl rfl rfl (fun bk2 w3 ebk2 sbk2 B4 u5 => ?_)))
 have zu5 := u5.size
 have E6 := E0.next u5 (fun _ _ h => h.elim)
 refine t_assign rfl rfl rfl (t_nil' (hK1 _ _ (c_seq fun K7 hK7 => (c_region (t_field Try.underlying48 rfl Try.sizeOf46 (2) rfl rfl rfl rfl (t_load Try.isAgg46 rfl rfl rfl (B4.get rfl) (t_field Try.underlying48 rfl Try.sizeOf46 (2) rfl rfl rfl rfl (t_load Try.isAgg46 rfl rfl rfl (B4.get rfl) (t_len Try.underlying46 rfl rfl rfl rfl (t_ari rfl rfl rfl rfl rfl (by omega) ?_))))))))))
 have i8 : (v.runs.length - 1) < v.runs.length := (by omega)
 refine t_index (j := (v.runs.length - 1)) Try.underlying46 Try.sizeOf59 rfl rfl rfl rfl ((hs.keep E6 (fun _ h => h)).addr (by omega)) (by omega) i8 (t_field Try.underlying59 rfl Try.sizeOf3 (o + (v.runs.length - 1) * 6 + 1) rfl rfl rfl rfl (t_load Try.isAgg3 rfl rfl rfl (((hs.keep E6 (fun _ h => h)).at_ (v.runs.length - 1) (by omega)) 1 _ rfl) (t_assign rfl rfl rfl (t_nil' (hK7 _ _ (c_ret (f_ret1 (v := .int .i64 ((nth v.runs (v.runs.length - 1)).to)) Try.results102 rfl ?_)))))))
 exact ⟨by rw [lst_eq (by omega)], E6⟩

def onWay (v : Voy) (ps : List Int) : Bool := decide (∀ n ∈ ps, min (frst v) (lst v) ≤ n ∧ n ≤ max (frst v) (lst v))
theorem isOn_c (v : Voy) (ao : Option Addr) (b o cap : Nat) (ps : List Int) (ap : Option Addr) (bp op cp : Nat) (w0 : World) (hs : Sl encRun 6 w0 ao b o v.runs) (hp : 0 < v.runs.length) (hl : v.runs.length ≤ 1000000) (hps : Sl encI 1 w0 ap bp op ps) (hpl : ps.length ≤ 1000000) :
    CallsV Try.prog 69 [.agg #[.int .i64 v.st.lo, .int .i64 v.st.hi, .slice ao ((v.runs).length) cap, .int .i64 v.len, .int .i64 v.wid], .slice ap ps.length cp] w0 (fun x w' => x = .bool (onWay v ps) ∧ Ext w0 w') := by
 have E0 := Upd.refl (fun _ => False) w0
 refine f_enter (N := 17) Try.func69 rfl rfl rfl ?_
 change WC _ _ _ _ _ _ [(0, .agg #[.int .i64 v.st.lo, .int .i64 v.st.hi, .slice ao ((v.runs).length) cap, .int .i64 v.len, .int .i64 v.wid]), (1, .slice ap ps.length cp)] _
 refine c_seq fun K1 hK1 => (c_region (t_box (cs := [.int .i64 v.st.lo, .int .i64 v.st.hi, .slice ao ((v.runs).length) cap, .int .i64 v.len, .int .i64 v.wid]) rfl rfl rfl rfl (fun bk2 w3 ebk2 sbk2 B4 u5 => ?_)))
 have zu5 := u5.size
 have E6 := E0.next u5 (fun _ _ h => h.elim)
 refine t_assign rfl rfl rfl (t_nil' (hK1 _ _ (c_seq fun K7 hK7 => (WC.weak [(1, .slice ap ps.length cp), (2, .pointer (some ⟨bk2, 0, none⟩))] ⟨rfl, rfl, trivial⟩ (c_drawn follows 13 [some (5, some (.agg #[.int .i64 v.st.lo, .int .i64 v.st.hi, .slice ao ((v.runs).length) cap, .int .i64 v.len, .int .i64 v.wid])), some (6, some (.int .i64 (frst v))), some (7, some (.agg #[.int .i64 v.st.lo, .int .i64 v.st.hi, .slice ao ((v.runs).length) cap, .int .i64 v.len, .int .i64 v.wid])), some (8, some (.int .i64 (lst v))), some (9, some (.int .i64 (min (frst v) (lst v)))), some (10, some (.agg #[.int .i64 v.st.lo, .int .i64 v.st.hi, .slice ao ((v.runs).length) cap, .int .i64 v.len, .int .i64 v.wid])), some (11, some (.int .i64 (frst v))), some (12, some (.agg #[.int .i64 v.st.lo, .int .i64 v.st.hi, .slice ao ((v.runs).length) cap, .int .i64 v.len, .int .i64 v.wid])), some (13, some (.int .i64 (lst v))), some (14, some (.int .i64 (max (frst v) (lst v)))), some (15, some (.slice ap ps.length cp)), some (16, some (.bool (decide (∀ n ∈ ps, (min (frst v) (lst v)) ≤ n ∧ n ≤ (max (frst v) (lst v)))))), some (4, some (.bool (decide (∀ n ∈ ps, (min (frst v) (lst v)) ≤ n ∧ n ≤ (max (frst v) (lst v))))))] [[],[0],[],[2,1],[1,3],[],[5,3],[],[7,6],[6,8],[],[4,9,10,8],[11,11,0,1,2,3,4,5,6,7,8,9,10,11]] (fun _ _ w => Upd (fun _ => False) w3 w) rfl rfl rfl (by kernel_rfl) (by kernel_rfl) (Upd.drew _).to ⟨?_, ?_, ?_, ?_, ?_, ?_, ?_, ?_, ?_, ?_, ?_, ?_, ?_, trivial⟩ ?_)))))
 ·
  intro D ρ w36 hcD hnD hdD hW
  have zhW := hW.size
  refine ⟨_, kf_fr [2], fun Lr => ?_⟩
  have B39 := (B4.keep hW (fun h => h))
  refine t_loadN (vs := [.int .i64 v.st.lo, .int .i64 v.st.hi, .slice ao ((v.runs).length) cap, .int .i64 v.len, .int .i64 v.wid]) Try.isAgg48 Try.sizeOf48 rfl rfl rfl (B39.at.sub 0 5) rfl ?_
  exact dz rfl hW
 ·
  intro D ρ w40 hcD hnD hdD hW
  have zhW := hW.size
  have E42 := E6.next hW (fun _ _ h => h.elim)
  refine ⟨_, kf_fr [5], fun Lr => ?_⟩
  refine t_call (vs := [.agg #[.int .i64 v.st.lo, .int .i64 v.st.hi, .slice ao ((v.runs).length) cap, .int .i64 v.len, .int .i64 v.wid]]) own67 rfl rfl rfl rfl (first_c v ao b o cap _ (hs.keep E42 (fun _ h => h)) (by omega)) (fun v43 w44 r46 => ?_)
  obtain ⟨rfl, u45⟩ := r46
  have zu45 := u45.size
  exact dz rfl (hW.next u45 (fun _ _ h => h.elim))
 ·
  intro D ρ w48 hcD hnD hdD hW
  have zhW := hW.size
  refine ⟨_, kf_fr [2], fun Lr => ?_⟩
  have B51 := (B4.keep hW (fun h => h))
  refine t_loadN (vs := [.int .i64 v.st.lo, .int .i64 v.st.hi, .slice ao ((v.runs).length) cap, .int .i64 v.len, .int .i64 v.wid]) Try.isAgg48 Try.sizeOf48 rfl rfl rfl (B51.at.sub 0 5) rfl ?_
  exact dz rfl hW
 ·
  intro D ρ w52 hcD hnD hdD hW
  have zhW := hW.size
  have E54 := E6.next hW (fun _ _ h => h.elim)
  refine ⟨_, kf_fr [7], fun Lr => ?_⟩
  refine t_call (vs := [.agg #[.int .i64 v.st.lo, .int .i64 v.st.hi, .slice ao ((v.runs).length) cap, .int .i64 v.len, .int .i64 v.wid]]) own102 rfl rfl rfl rfl (last_c v ao b o cap _ (hs.keep E54 (fun _ h => h)) (by omega) (by omega)) (fun v55 w56 r58 => ?_)
  obtain ⟨rfl, u57⟩ := r58
  have zu57 := u57.size
  exact dz rfl (hW.next u57 (fun _ _ h => h.elim))
 ·
  intro D ρ w60 hcD hnD hdD hW
  have zhW := hW.size
  refine ⟨_, kf_fr [6, 8], fun Lr => ?_⟩
  refine t_min rfl rfl rfl rfl ?_
  exact dz rfl hW
 ·
  intro D ρ w63 hcD hnD hdD hW
  have zhW := hW.size
  refine ⟨_, kf_fr [2], fun Lr => ?_⟩
  have B66 := (B4.keep hW (fun h => h))
  refine t_loadN (vs := [.int .i64 v.st.lo, .int .i64 v.st.hi, .slice ao ((v.runs).length) cap, .int .i64 v.len, .int .i64 v.wid]) Try.isAgg48 Try.sizeOf48 rfl rfl rfl (B66.at.sub 0 5) rfl ?_
  exact dz rfl hW
 ·
  intro D ρ w67 hcD hnD hdD hW
  have zhW := hW.size
  have E69 := E6.next hW (fun _ _ h => h.elim)
  refine ⟨_, kf_fr [10], fun Lr => ?_⟩
  refine t_call (vs := [.agg #[.int .i64 v.st.lo, .int .i64 v.st.hi, .slice ao ((v.runs).length) cap, .int .i64 v.len, .int .i64 v.wid]]) own67 rfl rfl rfl rfl (first_c v ao b o cap _ (hs.keep E69 (fun _ h => h)) (by omega)) (fun v70 w71 r73 => ?_)
  obtain ⟨rfl, u72⟩ := r73
  have zu72 := u72.size
  exact dz rfl (hW.next u72 (fun _ _ h => h.elim))
 ·
  intro D ρ w75 hcD hnD hdD hW
  have zhW := hW.size
  refine ⟨_, kf_fr [2], fun Lr => ?_⟩
  have B78 := (B4.keep hW (fun h => h))
  refine t_loadN (vs := [.int .i64 v.st.lo, .int .i64 v.st.hi, .slice ao ((v.runs).length) cap, .int .i64 v.len, .int .i64 v.wid]) Try.isAgg48 Try.sizeOf48 rfl rfl rfl (B78.at.sub 0 5) rfl ?_
  exact dz rfl hW
 ·
  intro D ρ w79 hcD hnD hdD hW
  have zhW := hW.size
  have E81 := E6.next hW (fun _ _ h => h.elim)
  refine ⟨_, kf_fr [12], fun Lr => ?_⟩
  refine t_call (vs := [.agg #[.int .i64 v.st.lo, .int .i64 v.st.hi, .slice ao ((v.runs).length) cap, .int .i64 v.len, .int .i64 v.wid]]) own102 rfl rfl rfl rfl (last_c v ao b o cap _ (hs.keep E81 (fun _ h => h)) (by omega) (by omega)) (fun v82 w83 r85 => ?_)
  obtain ⟨rfl, u84⟩ := r85
  have zu84 := u84.size
  exact dz rfl (hW.next u84 (fun _ _ h => h.elim))
 ·
  intro D ρ w87 hcD hnD hdD hW
  have zhW := hW.size
  refine ⟨_, kf_fr [11, 13], fun Lr => ?_⟩
  refine t_max rfl rfl rfl rfl ?_
  exact dz rfl hW
 · exact pz rfl rfl rfl rfl fun _ _ _ h => h
 ·
  intro D ρ w90 hcD hnD hdD hW
  have zhW := hW.size
  have E92 := E6.next hW (fun _ _ h => h.elim)
  refine ⟨_, kf_fr [9, 14, 15], fun Lr => ?_⟩
  refine t_call (vs := [.int .i64 (min (frst v) (lst v)), .int .i64 (max (frst v) (lst v)), .slice ap ps.length cp]) own58 rfl rfl rfl rfl (within_c (min (frst v) (lst v)) (max (frst v) (lst v)) ps _ _ _ _ _ (hps.keep E92 (fun _ h => h)) hpl) (fun v93 w94 r96 => ?_)
  obtain ⟨rfl, u95⟩ := r96
  have zu95 := u95.size
  exact dz rfl (hW.next u95 (fun _ _ h => h.elim))
 · exact pz rfl rfl rfl rfl fun _ _ _ h => h
 intro ρ w98 hW
 have u99 : Upd (fun _ => False) w3 w98 := hW
 have zu99 := u99.size
 have E100 := E6.next u99 (fun _ _ h => h.elim)
 refine QK.weak [(4, .bool (decide (∀ n ∈ ps, (min (frst v) (lst v)) ≤ n ∧ n ≤ (max (frst v) (lst v)))))] ⟨rfl, trivial⟩ (hK7 _ _ (c_ret (f_ret1 (v := .bool (decide (∀ n ∈ ps, (min (frst v) (lst v)) ≤ n ∧ n ≤ (max (frst v) (lst v))))) Try.results69 rfl ?_)))
 exact ⟨rfl, E100⟩


def okRun (a way : Int) (r : Run) : Bool := decide (((0 ≤ r.frm ∧ r.frm ≤ 100000) ∧ (0 ≤ r.to ∧ r.to ≤ 100000)) ∧ r.frm = a ∧ r.to ≠ a ∧ sgn r.frm r.to = way ∧
  (r.sp.lo ≤ r.sp.hi ∧ (1 ≤ r.sp.lo ∧ r.sp.lo ≤ 400) ∧ (1 ≤ r.sp.hi ∧ r.sp.hi ≤ 400)) ∧ (r.wt.lo ≤ r.wt.hi ∧ (0 ≤ r.wt.lo ∧ r.wt.lo ≤ 5000) ∧ (0 ≤ r.wt.hi ∧ r.wt.hi ≤ 5000)))
def okRuns (way : Int) : Int → List Run → Bool
  | _, [] => true
  | a, r :: rs => okRun a way r && okRuns way r.to rs
/-- All of a voyage but its runs. -/
def okVoy0 (v : Voy) : Bool := decide ((v.st.lo ≤ v.st.hi ∧ (0 ≤ v.st.lo ∧ v.st.lo ≤ 1000000) ∧ (0 ≤ v.st.hi ∧ v.st.hi ≤ 1000000)) ∧ (1 ≤ v.runs.length ∧ v.runs.length ≤ 20) ∧ (1 ≤ v.len ∧ v.len ≤ 3000) ∧ (1 ≤ v.wid ∧ v.wid ≤ 200))
def way0 (v : Voy) : Int := sgn (frst v) ((v.runs.map (·.to)).headD 0)
def okVoy (v : Voy) : Bool := okVoy0 v && okRuns (way0 v) (frst v) v.runs
def chk (v : Voy) : Int := if okVoy v then 0 else 2
theorem way0_eq {v : Voy} (h : 0 < v.runs.length) : way0 v = sgn (frst v) (nth v.runs 0).to := by
  rw [nth_eq h]; unfold way0; rw [List.headD_eq_head?_getD, List.head?_eq_getElem?]; simp [h]
theorem okRuns_drop {way a : Int} {rs : List Run} {k : Nat} (h : k < rs.length) : okRuns way a (rs.drop k) = (okRun a way (nth rs k) && okRuns way (nth rs k).to (rs.drop (k + 1))) := by
  rw [drop_nth h]; rfl
theorem chk_bad0 {v : Voy} (h : okVoy0 v = false) : chk v = 2 := by simp [chk, okVoy, h]
theorem chk_bad {v : Voy} {a : Int} {k : Nat} (hi : okRuns (way0 v) (frst v) v.runs = okRuns (way0 v) a (v.runs.drop k)) (h : k < v.runs.length) (hb : okRun a (way0 v) (nth v.runs k) = false) : chk v = 2 := by
  simp [chk, okVoy, hi, okRuns_drop h, hb]
theorem chk_next {v : Voy} {a : Int} {k : Nat} (hi : okRuns (way0 v) (frst v) v.runs = okRuns (way0 v) a (v.runs.drop k)) (h : k < v.runs.length) (hb : okRun a (way0 v) (nth v.runs k) = true) :
    okRuns (way0 v) (frst v) v.runs = okRuns (way0 v) (nth v.runs k).to (v.runs.drop (k + 1)) := by
  rw [hi, okRuns_drop h, hb]; simp
theorem chk_ok {v : Voy} {a : Int} {k : Nat} (h0 : okVoy0 v = true) (hi : okRuns (way0 v) (frst v) v.runs = okRuns (way0 v) a (v.runs.drop k)) (h : v.runs.length ≤ k) : chk v = 0 := by
  rw [List.drop_eq_nil_of_le h] at hi
  simp [chk, okVoy, h0, hi, okRuns]

theorem Check_c (v : Voy) (ao : Option Addr) (b o cap : Nat) (w0 : World) (hs : Sl encRun 6 w0 ao b o v.runs) (hl : v.runs.length ≤ 1000000) :
    CallsV Try.prog 29 [.agg #[.int .i64 v.st.lo, .int .i64 v.st.hi, .slice ao ((v.runs).length) cap, .int .i64 v.len, .int .i64 v.wid]] w0 (fun x w' => x = .int .i64 (chk v) ∧ Ext w0 w') := by
 have E0 := Upd.refl (fun _ => False) w0
 refine f_enter (N := 93) Try.func29 rfl rfl rfl ?_
 change WC _ _ _ _ _ _ [(0, .agg #[.int .i64 v.st.lo, .int .i64 v.st.hi, .slice ao ((v.runs).length) cap, .int .i64 v.len, .int .i64 v.wid])] _
 refine c_seq fun K1 hK1 => (c_region (t_box (cs := [.int .i64 v.st.lo, .int .i64 v.st.hi, .slice ao ((v.runs).length) cap, .int .i64 v.len, .int .i64 v.wid]) rfl rfl rfl rfl (fun bk2 w3 ebk2 sbk2 B4 u5 => ?_)))
 have zu5 := u5.size
 have E6 := E0.next u5 (fun _ _ h => h.elim)
 refine t_assign rfl rfl rfl (t_nil' (hK1 _ _ (c_seq fun K7 hK7 => (c_seq fun K8 hK8 => (c_region (t_field Try.underlying48 rfl Try.sizeOf45 (0) rfl rfl rfl rfl (t_loadN (vs := [.int .i64 v.st.lo, .int .i64 v.st.hi]) Try.isAgg45 Try.sizeOf45 rfl rfl rfl (B4.at.sub 0 2) rfl (t_call (vs := [.int .i64 0, .int .i64 1000000, .agg #[.int .i64 v.st.lo, .int .i64 v.st.hi]]) own66 rfl rfl rfl rfl (isValid_c 0 1000000 v.st.lo v.st.hi _) (fun v9 w10 r12 => ?_)))))))))
 obtain ⟨rfl, u11⟩ := r12
 have zu11 := u11.size
 have E13 := E6.next u11 (fun _ _ h => h.elim)
 refine t_notp rfl rfl rfl (t_move rfl rfl rfl (t_splitp 11 rfl (fun g11 => ?_) (fun g11 => ?_)))
 ·
  refine t_skip rfl rfl rfl (t_skip rfl rfl rfl (t_skip rfl rfl rfl (t_skip rfl rfl rfl (t_skip rfl rfl rfl (t_skip rfl rfl rfl (t_pick_t rfl rfl rfl rfl (t_move rfl rfl rfl (t_skip rfl rfl rfl (t_skip rfl rfl rfl (t_skip rfl rfl rfl (t_skip rfl rfl rfl (t_skip rfl rfl rfl (t_pick_t rfl rfl rfl rfl (t_move rfl rfl rfl (t_skip rfl rfl rfl (t_skip rfl rfl rfl (t_skip rfl rfl rfl (t_skip rfl rfl rfl (t_skip rfl rfl rfl (t_pick_t rfl rfl rfl rfl (t_nil' (hK8 _ _ (c_cond_t rfl ?_)))))))))))))))))))))))
  refine c_seq fun K14 hK14 => (c_region (t_assign rfl rfl rfl (t_nil' (hK14 _ _ (c_ret (f_ret1 (v := .int .i64 2) Try.results29 rfl ?_))))))
  exact ⟨by rw [chk_bad0 (by unfold okVoy0; rw [decide_eq_false_iff_not]; intro h; omega)], E13⟩
 ·
  refine t_field Try.underlying48 rfl Try.sizeOf46 (2) rfl rfl rfl rfl ?_
  have B15 := (B4.keep u11 (fun h => h))
  refine t_load Try.isAgg46 rfl rfl rfl (B15.get rfl) (t_len Try.underlying46 rfl rfl rfl rfl (t_bslice (ps := [(0, .int .i64 ((v.runs).length : Int))]) (cs := [.int .i64 ((v.runs).length : Int)]) (e := 3) rfl rfl ⟨rfl, rfl⟩ (fun w => by kernel_rfl) (fun bk16 w17 ebk16 sbk16 B18 u19 => ?_)))
  have zu19 := u19.size
  have E20 := E13.next u19 (fun _ _ h => h.elim)
  refine t_call (vs := [.int .i64 1, .int .i64 20, .slice (some ⟨bk16, 0, none⟩) 1 1]) own58 rfl rfl rfl rfl (within1_v 1 20 ((v.runs).length : Int) _ _ _ B18) (fun v21 w22 r24 => ?_)
  obtain ⟨rfl, u23⟩ := r24
  have zu23 := u23.size
  have E25 := E20.next u23 (fun _ _ h => h.elim)
  refine t_notp rfl rfl rfl (t_pick_f rfl rfl rfl rfl (t_move rfl rfl rfl (t_splitp 19 rfl (fun g19 => ?_) (fun g19 => ?_))))
  ·
   refine t_skip rfl rfl rfl (t_skip rfl rfl rfl (t_skip rfl rfl rfl (t_skip rfl rfl rfl (t_skip rfl rfl rfl (t_pick_t rfl rfl rfl rfl (t_move rfl rfl rfl (t_skip rfl rfl rfl (t_skip rfl rfl rfl (t_skip rfl rfl rfl (t_skip rfl rfl rfl (t_skip rfl rfl rfl (t_pick_t rfl rfl rfl rfl (t_nil' (hK8 _ _ (c_cond_t rfl (c_seq fun K26 hK26 => (c_region (t_assign rfl rfl rfl (t_nil' (hK26 _ _ (c_ret (f_ret1 (v := .int .i64 2) Try.results29 rfl ?_))))))))))))))))))))))
   exact ⟨by rw [chk_bad0 (by unfold okVoy0; rw [decide_eq_false_iff_not]; intro h; omega)], E25⟩
  ·
   refine t_field Try.underlying48 rfl Try.sizeOf3 (3) rfl rfl rfl rfl ?_
   have B27 := ((B15.keep u19 (fun h => h)).keep u23 (fun h => h))
   refine t_load Try.isAgg3 rfl rfl rfl (B27.get rfl) (t_bslice (ps := [(0, .int .i64 v.len)]) (cs := [.int .i64 v.len]) (e := 3) rfl rfl ⟨rfl, rfl⟩ (fun w => by kernel_rfl) (fun bk28 w29 ebk28 sbk28 B30 u31 => ?_))
   have zu31 := u31.size
   have E32 := E25.next u31 (fun _ _ h => h.elim)
   refine t_call (vs := [.int .i64 1, .int .i64 3000, .slice (some ⟨bk28, 0, none⟩) 1 1]) own58 rfl rfl rfl rfl (within1_v 1 3000 v.len _ _ _ B30) (fun v33 w34 r36 => ?_)
   obtain ⟨rfl, u35⟩ := r36
   have zu35 := u35.size
   have E37 := E32.next u35 (fun _ _ h => h.elim)
   refine t_notp rfl rfl rfl (t_pick_f rfl rfl rfl rfl (t_move rfl rfl rfl (t_splitp 26 rfl (fun g26 => ?_) (fun g26 => ?_))))
   ·
    refine t_skip rfl rfl rfl (t_skip rfl rfl rfl (t_skip rfl rfl rfl (t_skip rfl rfl rfl (t_skip rfl rfl rfl (t_pick_t rfl rfl rfl rfl (t_nil' (hK8 _ _ (c_cond_t rfl (c_seq fun K38 hK38 => (c_region (t_assign rfl rfl rfl (t_nil' (hK38 _ _ (c_ret (f_ret1 (v := .int .i64 2) Try.results29 rfl ?_)))))))))))))))
    exact ⟨by rw [chk_bad0 (by unfold okVoy0; rw [decide_eq_false_iff_not]; intro h; omega)], E37⟩
   ·
    refine t_field Try.underlying48 rfl Try.sizeOf3 (4) rfl rfl rfl rfl ?_
    have B39 := ((B27.keep u31 (fun h => h)).keep u35 (fun h => h))
    refine t_load Try.isAgg3 rfl rfl rfl (B39.get rfl) (t_bslice (ps := [(0, .int .i64 v.wid)]) (cs := [.int .i64 v.wid]) (e := 3) rfl rfl ⟨rfl, rfl⟩ (fun w => by kernel_rfl) (fun bk40 w41 ebk40 sbk40 B42 u43 => ?_))
    have zu43 := u43.size
    have E44 := E37.next u43 (fun _ _ h => h.elim)
    refine t_call (vs := [.int .i64 1, .int .i64 200, .slice (some ⟨bk40, 0, none⟩) 1 1]) own58 rfl rfl rfl rfl (within1_v 1 200 v.wid _ _ _ B42) (fun v45 w46 r48 => ?_)
    obtain ⟨rfl, u47⟩ := r48
    have zu47 := u47.size
    have E49 := E44.next u47 (fun _ _ h => h.elim)
    refine t_notp rfl rfl rfl (t_pick_f rfl rfl rfl rfl (t_nil' (hK8 _ _ (c_condp rfl (fun g32 => ?_) (fun g32 => ?_)))))
    ·
     refine c_seq fun K50 hK50 => (c_region (t_assign rfl rfl rfl (t_nil' (hK50 _ _ (c_ret (f_ret1 (v := .int .i64 2) Try.results29 rfl ?_))))))
     exact ⟨by rw [chk_bad0 (by unfold okVoy0; rw [decide_eq_false_iff_not]; intro h; omega)], E49⟩
    ·
     refine c_skip (hK7 _ _ (c_seq fun K51 hK51 => ?_))
     have B52 := ((B39.keep u43 (fun h => h)).keep u47 (fun h => h))
     refine WC.weak [(1, .pointer (some ⟨bk2, 0, none⟩))] ⟨rfl, trivial⟩ (c_drawn follows 12 [some (33, some (.agg #[.int .i64 v.st.lo, .int .i64 v.st.hi, .slice ao ((v.runs).length) cap, .int .i64 v.len, .int .i64 v.wid])), some (34, some (.int .i64 (frst v))), some (35, some (.agg #[.int .i64 v.st.lo, .int .i64 v.st.hi, .slice ao ((v.runs).length) cap, .int .i64 v.len, .int .i64 v.wid])), some (36, some (.int .i64 (frst v))), some (37, some (.pointer (some ⟨bk2, 2, none⟩))), some (38, some (.slice ao ((v.runs).length) cap)), some (39, some (.pointer (some ⟨b, o + 0 * 6, none⟩))), some (40, some (.pointer (some ⟨b, o + 0 * 6 + 1, none⟩))), some (41, some (.int .i64 ((nth v.runs 0).to))), some (42, some (.int .i64 (sgn (frst v) ((nth v.runs 0).to)))), some (3, some (.int .i64 (frst v))), some (4, some (.int .i64 (sgn (frst v) ((nth v.runs 0).to))))] [[],[0],[],[2,1],[],[4],[5],[6],[7],[3,8,3],[1,9,0,1],[9,10,0,1,2,3,4,5,6,7,8,9,10]] (fun _ _ w => Upd (fun _ => False) w46 w) rfl rfl rfl (by kernel_rfl) (by kernel_rfl) (Upd.drew _).to ⟨?_, ?_, ?_, ?_, ?_, ?_, ?_, ?_, ?_, ?_, ?_, ?_, trivial⟩ ?_)
     ·
      intro D ρ w71 hcD hnD hdD hW
      have zhW := hW.size
      refine ⟨_, kf_fr [1], fun Lr => ?_⟩
      have B74 := (B52.keep hW (fun h => h))
      refine t_loadN (vs := [.int .i64 v.st.lo, .int .i64 v.st.hi, .slice ao ((v.runs).length) cap, .int .i64 v.len, .int .i64 v.wid]) Try.isAgg48 Try.sizeOf48 rfl rfl rfl (B74.at.sub 0 5) rfl ?_
      exact dz rfl hW
     ·
      intro D ρ w75 hcD hnD hdD hW
      have zhW := hW.size
      have E77 := E49.next hW (fun _ _ h => h.elim)
      refine ⟨_, kf_fr [33], fun Lr => ?_⟩
      refine t_call (vs := [.agg #[.int .i64 v.st.lo, .int .i64 v.st.hi, .slice ao ((v.runs).length) cap, .int .i64 v.len, .int .i64 v.wid]]) own67 rfl rfl rfl rfl (first_c v ao b o cap _ (hs.keep E77 (fun _ h => h)) (by omega)) (fun v78 w79 r81 => ?_)
      obtain ⟨rfl, u80⟩ := r81
      have zu80 := u80.size
      exact dz rfl (hW.next u80 (fun _ _ h => h.elim))
     ·
      intro D ρ w83 hcD hnD hdD hW
      have zhW := hW.size
      refine ⟨_, kf_fr [1], fun Lr => ?_⟩
      have B86 := (B52.keep hW (fun h => h))
      refine t_loadN (vs := [.int .i64 v.st.lo, .int .i64 v.st.hi, .slice ao ((v.runs).length) cap, .int .i64 v.len, .int .i64 v.wid]) Try.isAgg48 Try.sizeOf48 rfl rfl rfl (B86.at.sub 0 5) rfl ?_
      exact dz rfl hW
     ·
      intro D ρ w87 hcD hnD hdD hW
      have zhW := hW.size
      have E89 := E49.next hW (fun _ _ h => h.elim)
      refine ⟨_, kf_fr [35], fun Lr => ?_⟩
      refine t_call (vs := [.agg #[.int .i64 v.st.lo, .int .i64 v.st.hi, .slice ao ((v.runs).length) cap, .int .i64 v.len, .int .i64 v.wid]]) own67 rfl rfl rfl rfl (first_c v ao b o cap _ (hs.keep E89 (fun _ h => h)) (by omega)) (fun v90 w91 r93 => ?_)
      obtain ⟨rfl, u92⟩ := r93
      have zu92 := u92.size
      exact dz rfl (hW.next u92 (fun _ _ h => h.elim))
     · exact pzf Try.underlying48 rfl Try.sizeOf46 (2) rfl rfl rfl rfl rfl fun _ _ _ h => h
     ·
      intro D ρ w95 hcD hnD hdD hW
      have zhW := hW.size
      refine ⟨_, kf_fr [37], fun Lr => ?_⟩
      have B98 := (B52.keep hW (fun h => h))
      refine t_load Try.isAgg46 rfl rfl rfl (B98.get rfl) ?_
      exact dz rfl hW
     ·
      intro D ρ w99 hcD hnD hdD hW
      have zhW := hW.size
      have E101 := E49.next hW (fun _ _ h => h.elim)
      refine ⟨_, kf_fr [38], fun Lr => ?_⟩
      have i102 : 0 < v.runs.length := (by omega)
      refine t_index (j := 0) Try.underlying46 Try.sizeOf59 rfl rfl rfl rfl ((hs.keep E101 (fun _ h => h)).addr (by omega)) rfl i102 ?_
      exact dz rfl hW
     · exact pzf Try.underlying59 rfl Try.sizeOf3 (o + 0 * 6 + 1) rfl rfl rfl rfl rfl fun _ _ _ h => h
     ·
      intro D ρ w103 hcD hnD hdD hW
      have zhW := hW.size
      have E105 := E49.next hW (fun _ _ h => h.elim)
      refine ⟨_, kf_fr [40], fun Lr => ?_⟩
      refine t_load Try.isAgg3 rfl rfl rfl (((hs.keep E105 (fun _ h => h)).at_ 0 (by omega)) 1 _ rfl) ?_
      exact dz rfl hW
     ·
      intro D ρ w106 hcD hnD hdD hW
      have zhW := hW.size
      refine ⟨_, kf_fr [36, 41], fun Lr => ?_⟩
      refine t_call (vs := [.int .i64 (frst v), .int .i64 ((nth v.runs 0).to)]) own68 rfl rfl rfl rfl (sign_c (frst v) ((nth v.runs 0).to) _) (fun v109 w110 r112 => ?_)
      obtain ⟨rfl, u111⟩ := r112
      have zu111 := u111.size
      exact dz rfl (hW.next u111 (fun _ _ h => h.elim))
     · exact pz rfl rfl rfl rfl fun _ _ _ h => h
     · exact pz rfl rfl rfl rfl fun _ _ _ h => h
     intro ρ w114 hW
     have u115 : Upd (fun _ => False) w46 w114 := hW
     have zu115 := u115.size
     have E116 := E49.next u115 (fun _ _ h => h.elim)
     refine QK.weak [(1, .pointer (some ⟨bk2, 0, none⟩)), (3, .int .i64 (frst v)), (4, .int .i64 (sgn (frst v) ((nth v.runs 0).to)))] ⟨rfl, rfl, rfl, trivial⟩ (hK51 _ _ (c_seq fun K117 hK117 => (c_seq fun K118 hK118 => (c_region (t_field Try.underlying48 rfl Try.sizeOf46 (2) rfl rfl rfl rfl ?_)))))
     have B119 := (B52.keep u115 (fun h => h))
     refine t_load Try.isAgg46 rfl rfl rfl (B119.get rfl) (t_len Try.underlying46 rfl rfl rfl rfl (t_move rfl rfl rfl (t_nil' (hK118 _ _ (c_block ?_)))))
     have hp : 0 < v.runs.length := by omega
     have h0 : okVoy0 v = true := by unfold okVoy0; rw [decide_eq_true_eq]; omega
     have hway := way0_eq hp
     refine c_loop (γ := Nat × Int) (fun gg => [(3, .int .i64 gg.2), (4, .int .i64 (sgn (frst v) ((nth v.runs 0).to))), (44, .slice ao ((v.runs).length) cap), (45, .int .i64 ((v.runs).length : Int)), (46, .int .i64 (gg.1 : Int))]) (fun gg w => Upd (fun _ => False) w114 w ∧ (gg.1 ≤ v.runs.length) ∧ (okRuns (way0 v) (frst v) v.runs = okRuns (way0 v) gg.2 (v.runs.drop gg.1))) (fun gg => v.runs.length - gg.1) (0, frst v) ⟨rfl, rfl, rfl, rfl, rfl, trivial⟩ ⟨Upd.refl _ _, Nat.zero_le _, rfl⟩ ?_
     intro gg w121 hW K120 hK120
     obtain ⟨k, a⟩ := gg
     change WC _ _ _ _ _ _ [(3, .int .i64 a), (4, .int .i64 (sgn (frst v) ((nth v.runs 0).to))), (44, .slice ao ((v.runs).length) cap), (45, .int .i64 ((v.runs).length : Int)), (46, .int .i64 (k : Int))] _
     change Upd (fun _ => False) w114 w121 ∧ (k ≤ v.runs.length) ∧ (okRuns (way0 v) (frst v) v.runs = okRuns (way0 v) a (v.runs.drop k)) at hW
     obtain ⟨u122, I123, I124⟩ := hW
     have zu122 := u122.size
     have E125 := E116.next u122 (fun _ _ h => h.elim)
     have hle := I123; clear I123
     have hinv := I124; clear I124
     refine c_seq fun K126 hK126 => (c_region (t_cmp rfl rfl rfl rfl rfl (t_nil' (hK126 _ _ (c_seq fun K127 hK127 => (c_condp rfl (fun g47 => ?_) (fun g47 => ?_)))))))
     ·
      refine c_skip (hK127 _ _ (c_seq fun K128 hK128 => (c_block (c_seq fun K129 hK129 => (c_region ?_)))))
      have i130 : k < v.runs.length := (by omega)
      refine t_index (j := k) Try.underlying46 Try.sizeOf59 rfl rfl rfl rfl ((hs.keep E125 (fun _ h => h)).addr (by omega)) rfl i130 (t_loadN (vs := [.int .i64 ((nth v.runs k).frm), .int .i64 ((nth v.runs k).to), .int .i64 ((nth v.runs k).sp.lo), .int .i64 ((nth v.runs k).sp.hi), .int .i64 ((nth v.runs k).wt.lo), .int .i64 ((nth v.runs k).wt.hi)]) Try.isAgg59 Try.sizeOf59 rfl rfl rfl (((hs.keep E125 (fun _ h => h)).at_ k (by omega)).sub 0 6) rfl (t_alloc (cs := [.int .i64 0, .int .i64 0, .int .i64 0, .int .i64 0, .int .i64 0, .int .i64 0]) Try.zeroValue59 rfl rfl rfl (fun bk131 w132 ebk131 sbk131 B133 u134 => ?_)))
      have zu134 := u134.size
      have E135 := E125.next u134 (fun _ _ h => h.elim)
      refine t_store (vs := [.int .i64 ((nth v.runs k).frm), .int .i64 ((nth v.runs k).to), .int .i64 ((nth v.runs k).sp.lo), .int .i64 ((nth v.runs k).sp.hi), .int .i64 ((nth v.runs k).wt.lo), .int .i64 ((nth v.runs k).wt.hi)]) Try.sizeOf59 rfl rfl rfl B133 rfl rfl (Nat.le_of_ble_eq_true rfl) (by simp [Value.oneCell']) (fun w136 sw136 B138 u137 => ?_)
      have zu137 := u137.size
      have E139 := E135.next u137 (fun i hi (h : i = bk131) => show False by first | omega | assumption)
      have B138 : Blk w136 bk131 59 [.int .i64 ((nth v.runs k).frm), .int .i64 ((nth v.runs k).to), .int .i64 ((nth v.runs k).sp.lo), .int .i64 ((nth v.runs k).sp.hi), .int .i64 ((nth v.runs k).wt.lo), .int .i64 ((nth v.runs k).wt.hi)] := B138
      refine t_nil' (hK129 _ _ (c_seq fun K140 hK140 => (c_seq fun K141 hK141 => (c_region (t_field Try.underlying59 rfl Try.sizeOf3 (0) rfl rfl rfl rfl (t_load Try.isAgg3 rfl rfl rfl (B138.get rfl) (t_field Try.underlying59 rfl Try.sizeOf3 (1) rfl rfl rfl rfl (t_load Try.isAgg3 rfl rfl rfl (B138.get rfl) (t_bslice (ps := [(0, .int .i64 ((nth v.runs k).frm)), (1, .int .i64 ((nth v.runs k).to))]) (cs := [.int .i64 ((nth v.runs k).frm), .int .i64 ((nth v.runs k).to)]) (e := 3) rfl rfl ⟨rfl, rfl⟩ (fun w => by kernel_rfl) (fun bk142 w143 ebk142 sbk142 B144 u145 => ?_))))))))))
      have zu145 := u145.size
      have E146 := E139.next u145 (fun _ _ h => h.elim)
      refine t_call (vs := [.int .i64 0, .int .i64 100000, .slice (some ⟨bk142, 0, none⟩) 2 2]) own58 rfl rfl rfl rfl (within2_v 0 100000 ((nth v.runs k).frm) ((nth v.runs k).to) _ _ _ B144) (fun v147 w148 r150 => ?_)
      obtain ⟨rfl, u149⟩ := r150
      have zu149 := u149.size
      have E151 := E146.next u149 (fun _ _ h => h.elim)
      refine t_notp rfl rfl rfl (t_move rfl rfl rfl (t_splitp 57 rfl (fun g57 => ?_) (fun g57 => ?_)))
      ·
       refine t_skip rfl rfl rfl (t_skip rfl rfl rfl (t_skip rfl rfl rfl (t_skip rfl rfl rfl (t_pick_t rfl rfl rfl rfl (t_move rfl rfl rfl (t_skip rfl rfl rfl (t_skip rfl rfl rfl (t_skip rfl rfl rfl (t_skip rfl rfl rfl (t_pick_t rfl rfl rfl rfl (t_move rfl rfl rfl (t_skip rfl rfl rfl (t_skip rfl rfl rfl (t_skip rfl rfl rfl (t_skip rfl rfl rfl (t_skip rfl rfl rfl (t_skip rfl rfl rfl (t_skip rfl rfl rfl (t_pick_t rfl rfl rfl rfl (t_move rfl rfl rfl (t_skip rfl rfl rfl (t_skip rfl rfl rfl (t_skip rfl rfl rfl ?_)))))))))))))))))))))))
       refine t_skip rfl rfl rfl (t_pick_t rfl rfl rfl rfl (t_move rfl rfl rfl (t_skip rfl rfl rfl (t_skip rfl rfl rfl (t_skip rfl rfl rfl (t_skip rfl rfl rfl (t_pick_t rfl rfl rfl rfl (t_nil' (hK141 _ _ (c_cond_t rfl (c_seq fun K152 hK152 => (c_region (t_assign rfl rfl rfl (t_nil' (hK152 _ _ (c_ret (f_ret1 (v := .int .i64 2) Try.results29 rfl ?_)))))))))))))))))
       exact ⟨by rw [chk_bad hinv (by omega) (by unfold okRun; rw [decide_eq_false_iff_not]; intro h; omega)], E151⟩
      ·
       refine t_field Try.underlying59 rfl Try.sizeOf3 (0) rfl rfl rfl rfl ?_
       have B153 := ((B138.keep u145 (fun h => h)).keep u149 (fun h => h))
       refine t_load Try.isAgg3 rfl rfl rfl (B153.get rfl) (t_move rfl rfl rfl (t_cmp rfl rfl rfl rfl rfl (t_pick_f rfl rfl rfl rfl (t_move rfl rfl rfl (t_splitp 63 rfl (fun g63 => ?_) (fun g63 => ?_))))))
       ·
        refine t_skip rfl rfl rfl (t_skip rfl rfl rfl (t_skip rfl rfl rfl (t_skip rfl rfl rfl (t_pick_t rfl rfl rfl rfl (t_move rfl rfl rfl (t_skip rfl rfl rfl (t_skip rfl rfl rfl (t_skip rfl rfl rfl (t_skip rfl rfl rfl (t_skip rfl rfl rfl (t_skip rfl rfl rfl (t_skip rfl rfl rfl (t_pick_t rfl rfl rfl rfl (t_move rfl rfl rfl (t_skip rfl rfl rfl (t_skip rfl rfl rfl (t_skip rfl rfl rfl (t_skip rfl rfl rfl (t_pick_t rfl rfl rfl rfl (t_move rfl rfl rfl (t_skip rfl rfl rfl (t_skip rfl rfl rfl (t_skip rfl rfl rfl ?_)))))))))))))))))))))))
        refine t_skip rfl rfl rfl (t_pick_t rfl rfl rfl rfl (t_nil' (hK141 _ _ (c_cond_t rfl (c_seq fun K154 hK154 => (c_region (t_assign rfl rfl rfl (t_nil' (hK154 _ _ (c_ret (f_ret1 (v := .int .i64 2) Try.results29 rfl ?_)))))))))))
        exact ⟨by rw [chk_bad hinv (by omega) (by unfold okRun; rw [decide_eq_false_iff_not]; intro h; omega)], E151⟩
       ·
        refine t_field Try.underlying59 rfl Try.sizeOf3 (1) rfl rfl rfl rfl (t_load Try.isAgg3 rfl rfl rfl (B153.get rfl) (t_move rfl rfl rfl (t_cmp rfl rfl rfl rfl rfl (t_pick_f rfl rfl rfl rfl (t_move rfl rfl rfl (t_splitp 69 rfl (fun g69 => ?_) (fun g69 => ?_)))))))
        ·
         refine t_skip rfl rfl rfl (t_skip rfl rfl rfl (t_skip rfl rfl rfl (t_skip rfl rfl rfl (t_skip rfl rfl rfl (t_skip rfl rfl rfl (t_skip rfl rfl rfl (t_pick_t rfl rfl rfl rfl (t_move rfl rfl rfl (t_skip rfl rfl rfl (t_skip rfl rfl rfl (t_skip rfl rfl rfl (t_skip rfl rfl rfl (t_pick_t rfl rfl rfl rfl (t_move rfl rfl rfl (t_skip rfl rfl rfl (t_skip rfl rfl rfl (t_skip rfl rfl rfl (t_skip rfl rfl rfl (t_pick_t rfl rfl rfl rfl (t_nil' (hK141 _ _ (c_cond_t rfl (c_seq fun K155 hK155 => ?_)))))))))))))))))))))))
         refine c_region (t_assign rfl rfl rfl (t_nil' (hK155 _ _ (c_ret (f_ret1 (v := .int .i64 2) Try.results29 rfl ?_)))))
         exact ⟨by rw [chk_bad hinv (by omega) (by unfold okRun; rw [decide_eq_false_iff_not]; intro h; omega)], E151⟩
        ·
         refine t_field Try.underlying59 rfl Try.sizeOf3 (0) rfl rfl rfl rfl (t_load Try.isAgg3 rfl rfl rfl (B153.get rfl) (t_field Try.underlying59 rfl Try.sizeOf3 (1) rfl rfl rfl rfl (t_load Try.isAgg3 rfl rfl rfl (B153.get rfl) (t_call (vs := [.int .i64 ((nth v.runs k).frm), .int .i64 ((nth v.runs k).to)]) own68 rfl rfl rfl rfl (sign_c ((nth v.runs k).frm) ((nth v.runs k).to) _) (fun v156 w157 r159 => ?_)))))
         obtain ⟨rfl, u158⟩ := r159
         have zu158 := u158.size
         have E160 := E151.next u158 (fun _ _ h => h.elim)
         refine t_move rfl rfl rfl (t_cmp rfl rfl rfl rfl rfl (t_pick_f rfl rfl rfl rfl (t_move rfl rfl rfl (t_splitp 78 rfl (fun g78 => ?_) (fun g78 => ?_)))))
         ·
          refine t_skip rfl rfl rfl (t_skip rfl rfl rfl (t_skip rfl rfl rfl (t_skip rfl rfl rfl (t_pick_t rfl rfl rfl rfl (t_move rfl rfl rfl (t_skip rfl rfl rfl (t_skip rfl rfl rfl (t_skip rfl rfl rfl (t_skip rfl rfl rfl (t_pick_t rfl rfl rfl rfl (t_nil' (hK141 _ _ (c_cond_t rfl (c_seq fun K161 hK161 => (c_region (t_assign rfl rfl rfl (t_nil' (hK161 _ _ (c_ret (f_ret1 (v := .int .i64 2) Try.results29 rfl ?_))))))))))))))))))))
          exact ⟨by rw [chk_bad hinv (by omega) (by unfold okRun; rw [decide_eq_false_iff_not]; intro h; omega)], E160⟩
         ·
          refine t_field Try.underlying59 rfl Try.sizeOf45 (2) rfl rfl rfl rfl ?_
          have B162 := (B153.keep u158 (fun h => h))
          refine t_loadN (vs := [.int .i64 ((nth v.runs k).sp.lo), .int .i64 ((nth v.runs k).sp.hi)]) Try.isAgg45 Try.sizeOf45 rfl rfl rfl (B162.at.sub 2 2) rfl (t_call (vs := [.int .i64 1, .int .i64 400, .agg #[.int .i64 ((nth v.runs k).sp.lo), .int .i64 ((nth v.runs k).sp.hi)]]) own66 rfl rfl rfl rfl (isValid_c 1 400 ((nth v.runs k).sp.lo) ((nth v.runs k).sp.hi) _) (fun v163 w164 r166 => ?_))
          obtain ⟨rfl, u165⟩ := r166
          have zu165 := u165.size
          have E167 := E160.next u165 (fun _ _ h => h.elim)
          refine t_notp rfl rfl rfl (t_pick_f rfl rfl rfl rfl (t_move rfl rfl rfl (t_splitp 84 rfl (fun g84 => ?_) (fun g84 => ?_))))
          ·
           refine t_skip rfl rfl rfl (t_skip rfl rfl rfl (t_skip rfl rfl rfl (t_skip rfl rfl rfl (t_pick_t rfl rfl rfl rfl (t_nil' (hK141 _ _ (c_cond_t rfl (c_seq fun K168 hK168 => (c_region (t_assign rfl rfl rfl (t_nil' (hK168 _ _ (c_ret (f_ret1 (v := .int .i64 2) Try.results29 rfl ?_))))))))))))))
           exact ⟨by rw [chk_bad hinv (by omega) (by unfold okRun; rw [decide_eq_false_iff_not]; intro h; omega)], E167⟩
          ·
           refine t_field Try.underlying59 rfl Try.sizeOf45 (4) rfl rfl rfl rfl ?_
           have B169 := (B162.keep u165 (fun h => h))
           refine t_loadN (vs := [.int .i64 ((nth v.runs k).wt.lo), .int .i64 ((nth v.runs k).wt.hi)]) Try.isAgg45 Try.sizeOf45 rfl rfl rfl (B169.at.sub 4 2) rfl (t_call (vs := [.int .i64 0, .int .i64 5000, .agg #[.int .i64 ((nth v.runs k).wt.lo), .int .i64 ((nth v.runs k).wt.hi)]]) own66 rfl rfl rfl rfl (isValid_c 0 5000 ((nth v.runs k).wt.lo) ((nth v.runs k).wt.hi) _) (fun v170 w171 r173 => ?_))
           obtain ⟨rfl, u172⟩ := r173
           have zu172 := u172.size
           have E174 := E167.next u172 (fun _ _ h => h.elim)
           refine t_notp rfl rfl rfl (t_pick_f rfl rfl rfl rfl (t_nil' (hK141 _ _ (c_condp rfl (fun g89 => ?_) (fun g89 => ?_)))))
           ·
            refine c_seq fun K175 hK175 => (c_region (t_assign rfl rfl rfl (t_nil' (hK175 _ _ (c_ret (f_ret1 (v := .int .i64 2) Try.results29 rfl ?_))))))
            exact ⟨by rw [chk_bad hinv (by omega) (by unfold okRun; rw [decide_eq_false_iff_not]; intro h; omega)], E174⟩
           ·
            refine c_skip (hK140 _ _ (c_region (t_field Try.underlying59 rfl Try.sizeOf3 (1) rfl rfl rfl rfl ?_)))
            have B176 := (B169.keep u172 (fun h => h))
            refine t_load Try.isAgg3 rfl rfl rfl (B176.get rfl) (t_assign rfl rfl rfl (t_nil' (hK128 _ _ (c_region (t_ari rfl rfl rfl rfl rfl (by omega) (t_move rfl rfl rfl (t_nil' ?_)))))))
            exact hK120 (k + 1, (nth v.runs k).to) _ _ (by show v.runs.length - (k + 1) < v.runs.length - k; omega) ⟨rfl, rfl, rfl, rfl, rfl, trivial⟩ ⟨(((((((u122.next u134 (fun _ _ h => h.elim)).next u137 (fun i hi (h : i = bk131) => show False by first | omega | assumption)).next u145 (fun _ _ h => h.elim)).next u149 (fun _ _ h => h.elim)).next u158 (fun _ _ h => h.elim)).next u165 (fun _ _ h => h.elim)).next u172 (fun _ _ h => h.elim)), (by omega), (chk_next hinv (by omega) (by unfold okRun; rw [decide_eq_true_eq]; omega))⟩
     ·
      refine c_exit (hK117 _ _ (c_seq fun K177 hK177 => (c_region (t_assign rfl rfl rfl (t_nil' (hK177 _ _ (c_ret (f_ret1 (v := .int .i64 0) Try.results29 rfl ?_))))))))
      exact ⟨by rw [chk_ok h0 hinv (by omega)], E125⟩

end Go.Proofs.Ytmicjleiheoieaa
