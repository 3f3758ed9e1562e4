/-
  Contracts of the reference's functions on narrows, for voyages that begin at any minute. Conditions: none.
-/
import Derived.Test.YtmicjleiheoieaaOA33
namespace Go.Proofs.Ytmicjleiheoieaa
open Go Go.RowKit
/-- A valid voyage, but for the minute in which it begins. -/
def okGo (v : Voy) : Prop := RVoy v ∧ ∃ s : Bnd, okVoy ⟨s, v.runs, v.len, v.wid⟩ = true
theorem okGo.rng {v : Voy} (h : okGo v) : RVoy v := h.1
theorem okGo.frst {v : Voy} (h : okGo v) : 0 ≤ frst v ∧ frst v ≤ 100000 := by
  obtain ⟨_, s, h⟩ := h; exact frst_rng (v := ⟨s, v.runs, v.len, v.wid⟩) h
theorem okGo.lst {v : Voy} (h : okGo v) : 0 ≤ lst v ∧ lst v ≤ 100000 := by
  obtain ⟨_, s, h⟩ := h; exact lst_rng (v := ⟨s, v.runs, v.len, v.wid⟩) h
theorem okGo.held {v : Voy} {h : Int} (hk : okVoy v = true) (hh : 0 ≤ h ∧ h ≤ 1000000) : okGo (heldV v h) := by
  have h1 := okVoy_rng hk
  have h0 := hk
  unfold okVoy at h0
  rw [Bool.and_eq_true] at h0
  have h2 := h0.1
  unfold okVoy0 at h2
  rw [decide_eq_true_eq] at h2
  refine ⟨⟨h1.pos, h1.few, h1.run, ?_, h1.len, h1.wid⟩, v.st, hk⟩
  show (-1000000000 ≤ v.st.lo + h ∧ v.st.lo + h ≤ 1000000000) ∧ (-1000000000 ≤ v.st.hi + h ∧ v.st.hi + h ≤ 1000000000)
  omega
theorem ref_arrG {v : Voy} {p : Int} (h : okGo v) (ho : onWay v [p] = true) : refGo p v.runs v.st = arr v p := by
  obtain ⟨_, s, h⟩ := h
  have h' := h
  unfold okVoy at h
  rw [Bool.and_eq_true] at h
  have hr := onWay_rng ho
  have e0 : way0 (⟨s, v.runs, v.len, v.wid⟩ : Voy) = way0 v := rfl
  have e1 : Go.Proofs.Ytmicjleiheoieaa.frst (⟨s, v.runs, v.len, v.wid⟩ : Voy) = Go.Proofs.Ytmicjleiheoieaa.frst v := rfl
  have e2 : Go.Proofs.Ytmicjleiheoieaa.lst (⟨s, v.runs, v.len, v.wid⟩ : Voy) = Go.Proofs.Ytmicjleiheoieaa.lst v := rfl
  rcases way0_cases h' with ⟨e, e3⟩ | ⟨e, e3⟩
  · exact refGo_eq v.runs _ _ h.2 (fun _ => by omega) (fun e2 => by omega)
  · exact refGo_eq v.runs _ _ h.2 (fun e2 => by omega) (fun _ => by omega)
theorem rArriveG_c (v : Voy) (ao : Option Addr) (b o cap : Nat) (p : Int) (w0 : World) (hs : Sl encRun 6 w0 ao b o v.runs) (hk : okGo v) (ho : onWay v [p] = true) :
    CallsV Try.prog 34 [.agg #[.int .i64 v.st.lo, .int .i64 v.st.hi, .slice ao ((v.runs).length) cap, .int .i64 v.len, .int .i64 v.wid], .int .i64 p] w0 (fun x w' => x = .agg #[.int .i64 (arr v p).lo, .int .i64 (arr v p).hi] ∧ Ext w0 w') :=
  have h1 := onWay_rng ho
  have h2 := hk.frst
  have h3 := hk.lst
  have h4 := hk.rng
  (rArrive_c v ao b o cap p w0 hs h4.few h4.run h4.st (by omega)).mono fun _ _ h => ⟨h.1.trans (by rw [ref_arrG hk ho]), h.2⟩

theorem own64 : Own Try.prog 64 := ⟨Try.f64, Try.func64, by kernel_rfl, by kernel_rfl⟩

theorem rThroughG_c (v : Voy) (ao : Option Addr) (b o cap : Nat) (n : Nar) (w0 : World) (hs : Sl encRun 6 w0 ao b o v.runs) (hk : okGo v) (hm : okNar n = true) :
    CallsV Try.prog 43 [.agg #[.int .i64 v.st.lo, .int .i64 v.st.hi, .slice ao ((v.runs).length) cap, .int .i64 v.len, .int .i64 v.wid], .agg #[.int .i64 n.frm, .int .i64 n.to, .int .i64 n.wid, .bool n.single]] w0 (fun x w' => x = .tuple #[.agg #[.int .i64 (thrS v n).inn.lo, .int .i64 (thrS v n).inn.hi], .agg #[.int .i64 (thrS v n).out.lo, .int .i64 (thrS v n).out.hi], .bool (thrS v n).there, .int .i64 (thrE v n)] ∧ Ext w0 w') := by
 have hv := okGo.rng hk
 have hn := okNar_rng hm
 have hn1 := hn.frm
 have hn2 := hn.to
 have hv1 := hv.len
 have htl : (v.len + 99) / 100 = tail v := by unfold tail; rw [show v.len + 100 - 1 = v.len + 99 by omega]
 have htr : 0 ≤ tail v ∧ tail v ≤ 1001 := by unfold tail; omega
 have hf1 := hk.frst
 have hf2 := hk.lst
 have E0 := Upd.refl (fun _ => False) w0
 refine f_enter (N := 84) Try.func43 rfl rfl rfl ?_
 change WC _ _ _ _ _ _ [(0, .agg #[.int .i64 v.st.lo, .int .i64 v.st.hi, .slice ao ((v.runs).length) cap, .int .i64 v.len, .int .i64 v.wid]), (1, .agg #[.int .i64 n.frm, .int .i64 n.to, .int .i64 n.wid, .bool n.single])] _
 refine c_seq fun K1 hK1 => (c_region (t_box (cs := [.int .i64 v.st.lo, .int .i64 v.st.hi, .slice ao ((v.runs).length) cap, .int .i64 v.len, .int .i64 v.wid]) rfl rfl rfl rfl (fun bk2 w3 ebk2 sbk2 B4 u5 => ?_)))
 have zu5 := u5.size
 have E6 := E0.next u5 (fun _ _ h => h.elim)
 refine t_box (cs := [.int .i64 n.frm, .int .i64 n.to, .int .i64 n.wid, .bool n.single]) rfl rfl rfl rfl (fun bk7 w8 ebk7 sbk7 B9 u10 => ?_)
 have zu10 := u10.size
 have E11 := E6.next u10 (fun _ _ h => h.elim)
 refine t_alloc (cs := [.int .i64 0, .int .i64 0]) Try.zeroValue45 rfl rfl rfl (fun bk12 w13 ebk12 sbk12 B14 u15 => ?_)
 have zu15 := u15.size
 have E16 := E11.next u15 (fun _ _ h => h.elim)
 refine t_alloc (cs := [.int .i64 0, .int .i64 0]) Try.zeroValue45 rfl rfl rfl (fun bk17 w18 ebk17 sbk17 B19 u20 => ?_)
 have zu20 := u20.size
 have E21 := E16.next u20 (fun _ _ h => h.elim)
 refine t_assign rfl rfl rfl (t_assign rfl rfl rfl (t_nil' (hK1 _ _ (c_seq fun K22 hK22 => (c_region ?_)))))
 have B23 := (((B4.keep u10 (fun h => h)).keep u15 (fun h => h)).keep u20 (fun h => h))
 refine t_loadN (vs := [.int .i64 v.st.lo, .int .i64 v.st.hi, .slice ao ((v.runs).length) cap, .int .i64 v.len, .int .i64 v.wid]) Try.isAgg48 Try.sizeOf48 rfl rfl rfl (B23.at.sub 0 5) rfl (t_call (vs := [.agg #[.int .i64 v.st.lo, .int .i64 v.st.hi, .slice ao ((v.runs).length) cap, .int .i64 v.len, .int .i64 v.wid]]) own72 rfl rfl rfl rfl (Ends_c v ao b o cap _ (hs.keep E21 (fun _ h => h)) (okGo.rng hk).pos (by have := (okGo.rng hk).few; omega)) (fun v24 w25 r27 => ?_))
 obtain ⟨rfl, u26⟩ := r27
 have zu26 := u26.size
 have E28 := E21.next u26 (fun _ _ h => h.elim)
 refine t_move rfl rfl rfl (t_extract (vs := [.int .i64 (frst v), .int .i64 (lst v)]) rfl rfl rfl rfl (t_extract (vs := [.int .i64 (frst v), .int .i64 (lst v)]) rfl rfl rfl rfl (t_assign rfl rfl rfl (t_assign rfl rfl rfl (t_nil' (hK22 _ _ (c_seq fun K29 hK29 => (c_region (t_field Try.underlying48 rfl Try.sizeOf3 (3) rfl rfl rfl rfl ?_)))))))))
 have B30 := (B23.keep u26 (fun h => h))
 refine t_load Try.isAgg3 rfl rfl rfl (B30.get rfl) (t_ari rfl rfl rfl rfl rfl (by omega) (t_quo rfl rfl rfl rfl (by omega) (by omega) (t_same 22 (v := .int .i64 (tail v)) rfl (congrArg (Value.int .i64) htl) (t_assign rfl rfl rfl (t_nil' (hK29 _ _ (c_cut (γ := Unit) (fun _x => [(2, .pointer (some ⟨bk2, 0, none⟩)), (3, .pointer (some ⟨bk7, 0, none⟩)), (4, .pointer (some ⟨bk12, 0, none⟩)), (5, .pointer (some ⟨bk17, 0, none⟩)), (8, .int .i64 (frst v)), (9, .int .i64 (lst v)), (10, .int .i64 (tail v)), (11, .int .i64 n.frm), (12, .int .i64 (n.to + (tail v))), (13, .bool (nearD v n))]) (fun _x w => Upd (fun _ => False) w25 w) (fun K32 hK32 => ?_) ?_)))))))
 ·
  have B35 := (((B9.keep u15 (fun h => h)).keep u20 (fun h => h)).keep u26 (fun h => h))
  by_cases g35 : (frst v) < (n.to + (tail v))
  ·
   refine WC.weak [(2, .pointer (some ⟨bk2, 0, none⟩)), (3, .pointer (some ⟨bk7, 0, none⟩)), (4, .pointer (some ⟨bk12, 0, none⟩)), (5, .pointer (some ⟨bk17, 0, none⟩)), (8, .int .i64 (frst v)), (9, .int .i64 (lst v)), (10, .int .i64 (tail v))] ⟨rfl, rfl, rfl, rfl, rfl, rfl, rfl, trivial⟩ (c_drawn follows 21 [some (23, some (.pointer (some ⟨bk7, 0, none⟩))), some (24, some (.int .i64 n.frm)), some (25, some (.pointer (some ⟨bk7, 1, none⟩))), some (26, some (.int .i64 n.to)), some (27, some (.int .i64 (tail v))), some (28, some (.int .i64 (n.to + (tail v)))), some (29, some (.int .i64 (frst v))), some (30, some (.pointer (some ⟨bk7, 1, none⟩))), some (31, some (.int .i64 n.to)), some (32, some (.int .i64 (tail v))), some (33, some (.int .i64 (n.to + (tail v)))), some (34, some (.bool (decide ((frst v) < (n.to + (tail v)))))), some (35, some (.bool true)), some (36, some (.int .i64 (lst v))), some (37, some (.pointer (some ⟨bk7, 0, none⟩))), some (38, some (.int .i64 n.frm)), some (39, some (.bool (decide (n.frm < (lst v))))), some (40, some (.bool (decide (n.frm < (lst v))))), some (11, some (.int .i64 n.frm)), some (12, some (.int .i64 (n.to + (tail v)))), some (13, some (.bool (decide (n.frm < (lst v)))))] [[],[0],[],[2],[],[3,4],[],[],[7],[],[8,9],[6,10],[11],[12],[12],[14,12],[13,15,12],[12,16],[1,12,0,1],[5,18,0,1,2,3,4,5,18],[17,19,0,1,2,3,4,5,6,7,8,9,10,11,12,13,14,15,16,17,18,19]] (fun _ _ w => Upd (fun _ => False) w25 w) rfl rfl rfl (by kernel_rfl) (by kernel_rfl) (Upd.drew _).to ⟨?_, ?_, ?_, ?_, ?_, ?_, ?_, ?_, ?_, ?_, ?_, ?_, ?_, ?_, ?_, ?_, ?_, ?_, ?_, ?_, ?_, trivial⟩ ?_)
   · exact pzf Try.underlying72 rfl Try.sizeOf3 (0) rfl rfl rfl rfl rfl fun _ _ _ h => h
   ·
    intro D ρ w36 hcD hnD hdD hW
    have zhW := hW.size
    refine ⟨_, kf_fr [23], fun Lr => ?_⟩
    have B39 := (B35.keep hW (fun h => h))
    refine t_load Try.isAgg3 rfl rfl rfl (B39.get rfl) ?_
    exact dz rfl hW
   · exact pzf Try.underlying72 rfl Try.sizeOf3 (1) rfl rfl rfl rfl rfl fun _ _ _ h => h
   ·
    intro D ρ w40 hcD hnD hdD hW
    have zhW := hW.size
    refine ⟨_, kf_fr [25], fun Lr => ?_⟩
    have B43 := (B35.keep hW (fun h => h))
    refine t_load Try.isAgg3 rfl rfl rfl (B43.get rfl) ?_
    exact dz rfl hW
   · exact pz rfl rfl rfl rfl fun _ _ _ h => h
   ·
    intro D ρ w44 hcD hnD hdD hW
    have zhW := hW.size
    refine ⟨_, kf_fr [26, 27], fun Lr => ?_⟩
    refine t_ari rfl rfl rfl rfl rfl (by omega) ?_
    exact dz rfl hW
   · exact pz rfl rfl rfl rfl fun _ _ _ h => h
   · exact pzf Try.underlying72 rfl Try.sizeOf3 (1) rfl rfl rfl rfl rfl fun _ _ _ h => h
   ·
    intro D ρ w47 hcD hnD hdD hW
    have zhW := hW.size
    refine ⟨_, kf_fr [30], fun Lr => ?_⟩
    have B50 := (B35.keep hW (fun h => h))
    refine t_load Try.isAgg3 rfl rfl rfl (B50.get rfl) ?_
    exact dz rfl hW
   · exact pz rfl rfl rfl rfl fun _ _ _ h => h
   ·
    intro D ρ w51 hcD hnD hdD hW
    have zhW := hW.size
    refine ⟨_, kf_fr [31, 32], fun Lr => ?_⟩
    refine t_ari rfl rfl rfl rfl rfl (by omega) ?_
    exact dz rfl hW
   · exact pz rfl rfl rfl rfl fun _ _ _ h => h
   · exact fun D ρ w _ _ _ hW => ⟨[(34, .bool (decide ((frst v) < (n.to + (tail v)))))], ⟨fi 11 rfl rfl rfl, trivial⟩, fun Lr => t_move rfl rfl rfl (t_samehd (v := .bool true) (by first | exact congrArg Value.bool (decide_eq_true g35) | exact congrArg Value.bool g35 | simp [g35]) (dz rfl hW))⟩
   · exact pz rfl rfl rfl rfl fun _ _ _ h => h
   · exact pzf Try.underlying72 rfl Try.sizeOf3 (0) rfl rfl rfl rfl rfl fun _ _ _ h => h
   ·
    intro D ρ w54 hcD hnD hdD hW
    have zhW := hW.size
    refine ⟨_, kf_fr [35, 37], fun Lr => ?_⟩
    have B57 := (B35.keep hW (fun h => h))
    refine t_load Try.isAgg3 rfl rfl rfl (B57.get rfl) ?_
    exact dz rfl hW
   · exact pz rfl rfl rfl rfl fun _ _ _ h => h
   · exact pz rfl rfl rfl rfl fun _ _ _ h => h
   · exact pz rfl rfl rfl rfl fun _ _ _ h => h
   · exact pz rfl rfl rfl rfl fun _ _ _ h => h
   · exact pz rfl rfl rfl rfl fun _ _ _ h => h
   intro ρ w58 hW
   have u59 : Upd (fun _ => False) w25 w58 := hW
   have zu59 := u59.size
   refine QK.weak [(2, .pointer (some ⟨bk2, 0, none⟩)), (3, .pointer (some ⟨bk7, 0, none⟩)), (4, .pointer (some ⟨bk12, 0, none⟩)), (5, .pointer (some ⟨bk17, 0, none⟩)), (8, .int .i64 (frst v)), (9, .int .i64 (lst v)), (10, .int .i64 (tail v)), (11, .int .i64 n.frm), (12, .int .i64 (n.to + (tail v))), (13, .bool (decide (n.frm < (lst v))))] ⟨rfl, rfl, rfl, rfl, rfl, rfl, rfl, rfl, rfl, rfl, trivial⟩ ?_
   exact hK32 () _ _ ⟨rfl, rfl, rfl, rfl, rfl, rfl, rfl, rfl, rfl, (by exact congrArg some (by simp [nearD, g35])), trivial⟩ ((Upd.refl _ _).next u59 (fun _ _ h => h.elim))
  ·
   refine WC.weak [(2, .pointer (some ⟨bk2, 0, none⟩)), (3, .pointer (some ⟨bk7, 0, none⟩)), (4, .pointer (some ⟨bk12, 0, none⟩)), (5, .pointer (some ⟨bk17, 0, none⟩)), (8, .int .i64 (frst v)), (9, .int .i64 (lst v)), (10, .int .i64 (tail v))] ⟨rfl, rfl, rfl, rfl, rfl, rfl, rfl, trivial⟩ (c_drawn follows 21 [some (23, some (.pointer (some ⟨bk7, 0, none⟩))), some (24, some (.int .i64 n.frm)), some (25, some (.pointer (some ⟨bk7, 1, none⟩))), some (26, some (.int .i64 n.to)), some (27, some (.int .i64 (tail v))), some (28, some (.int .i64 (n.to + (tail v)))), some (29, some (.int .i64 (frst v))), some (30, some (.pointer (some ⟨bk7, 1, none⟩))), some (31, some (.int .i64 n.to)), some (32, some (.int .i64 (tail v))), some (33, some (.int .i64 (n.to + (tail v)))), some (34, some (.bool (decide ((frst v) < (n.to + (tail v)))))), some (35, some (.bool false)), some (36, some (undef)), some (37, some (undef)), some (38, some (undef)), some (39, some (undef)), some (40, some (.bool false)), some (11, some (.int .i64 n.frm)), some (12, some (.int .i64 (n.to + (tail v)))), some (13, some (.bool false))] [[],[0],[],[2],[],[3,4],[],[],[7],[],[8,9],[6,10],[11],[12],[12],[14,12],[13,15,12],[12,16],[1,12,0,1],[5,18,0,1,2,3,4,5,18],[17,19,0,1,2,3,4,5,6,7,8,9,10,11,12,13,14,15,16,17,18,19]] (fun _ _ w => Upd (fun _ => False) w25 w) rfl rfl rfl (by kernel_rfl) (by kernel_rfl) (Upd.drew _).to ⟨?_, ?_, ?_, ?_, ?_, ?_, ?_, ?_, ?_, ?_, ?_, ?_, ?_, ?_, ?_, ?_, ?_, ?_, ?_, ?_, ?_, trivial⟩ ?_)
   · exact pzf Try.underlying72 rfl Try.sizeOf3 (0) rfl rfl rfl rfl rfl fun _ _ _ h => h
   ·
    intro D ρ w61 hcD hnD hdD hW
    have zhW := hW.size
    refine ⟨_, kf_fr [23], fun Lr => ?_⟩
    have B64 := (B35.keep hW (fun h => h))
    refine t_load Try.isAgg3 rfl rfl rfl (B64.get rfl) ?_
    exact dz rfl hW
   · exact pzf Try.underlying72 rfl Try.sizeOf3 (1) rfl rfl rfl rfl rfl fun _ _ _ h => h
   ·
    intro D ρ w65 hcD hnD hdD hW
    have zhW := hW.size
    refine ⟨_, kf_fr [25], fun Lr => ?_⟩
    have B68 := (B35.keep hW (fun h => h))
    refine t_load Try.isAgg3 rfl rfl rfl (B68.get rfl) ?_
    exact dz rfl hW
   · exact pz rfl rfl rfl rfl fun _ _ _ h => h
   ·
    intro D ρ w69 hcD hnD hdD hW
    have zhW := hW.size
    refine ⟨_, kf_fr [26, 27], fun Lr => ?_⟩
    refine t_ari rfl rfl rfl rfl rfl (by omega) ?_
    exact dz rfl hW
   · exact pz rfl rfl rfl rfl fun _ _ _ h => h
   · exact pzf Try.underlying72 rfl Try.sizeOf3 (1) rfl rfl rfl rfl rfl fun _ _ _ h => h
   ·
    intro D ρ w72 hcD hnD hdD hW
    have zhW := hW.size
    refine ⟨_, kf_fr [30], fun Lr => ?_⟩
    have B75 := (B35.keep hW (fun h => h))
    refine t_load Try.isAgg3 rfl rfl rfl (B75.get rfl) ?_
    exact dz rfl hW
   · exact pz rfl rfl rfl rfl fun _ _ _ h => h
   ·
    intro D ρ w76 hcD hnD hdD hW
    have zhW := hW.size
    refine ⟨_, kf_fr [31, 32], fun Lr => ?_⟩
    refine t_ari rfl rfl rfl rfl rfl (by omega) ?_
    exact dz rfl hW
   · exact pz rfl rfl rfl rfl fun _ _ _ h => h
   · exact fun D ρ w _ _ _ hW => ⟨[(34, .bool (decide ((frst v) < (n.to + (tail v)))))], ⟨fi 11 rfl rfl rfl, trivial⟩, fun Lr => t_move rfl rfl rfl (t_samehd (v := .bool false) (by first | exact congrArg Value.bool (decide_eq_false g35) | exact congrArg Value.bool g35 | simp [g35]) (dz rfl hW))⟩
   · exact pz rfl rfl rfl rfl fun _ _ _ h => h
   · exact pz rfl rfl rfl rfl fun _ _ _ h => h
   · exact pz rfl rfl rfl rfl fun _ _ _ h => h
   · exact pz rfl rfl rfl rfl fun _ _ _ h => h
   · exact pz rfl rfl rfl rfl fun _ _ _ h => h
   · exact pz rfl rfl rfl rfl fun _ _ _ h => h
   · exact pz rfl rfl rfl rfl fun _ _ _ h => h
   · exact pz rfl rfl rfl rfl fun _ _ _ h => h
   intro ρ w79 hW
   have u80 : Upd (fun _ => False) w25 w79 := hW
   have zu80 := u80.size
   refine QK.weak [(2, .pointer (some ⟨bk2, 0, none⟩)), (3, .pointer (some ⟨bk7, 0, none⟩)), (4, .pointer (some ⟨bk12, 0, none⟩)), (5, .pointer (some ⟨bk17, 0, none⟩)), (8, .int .i64 (frst v)), (9, .int .i64 (lst v)), (10, .int .i64 (tail v)), (11, .int .i64 n.frm), (12, .int .i64 (n.to + (tail v))), (13, .bool false)] ⟨rfl, rfl, rfl, rfl, rfl, rfl, rfl, rfl, rfl, rfl, trivial⟩ ?_
   exact hK32 () _ _ ⟨rfl, rfl, rfl, rfl, rfl, rfl, rfl, rfl, rfl, (by exact congrArg some (by simp [nearD, g35])), trivial⟩ ((Upd.refl _ _).next u80 (fun _ _ h => h.elim))
 ·
  intro _x w33 u34
  have zu34 := u34.size
  have E82 := E28.next u34 (fun _ _ h => h.elim)
  refine c_cut (γ := Unit) (fun _x => [(2, .pointer (some ⟨bk2, 0, none⟩)), (4, .pointer (some ⟨bk12, 0, none⟩)), (5, .pointer (some ⟨bk17, 0, none⟩)), (11, .int .i64 (entP v n)), (12, .int .i64 (leaP v n)), (13, .bool (near v n))]) (fun _x w => Upd (fun _ => False) w33 w) (fun K84 hK84 => ?_) ?_
  ·
   refine c_seq fun K87 hK87 => (c_region (t_move rfl rfl rfl (t_move rfl rfl rfl (t_cmp rfl rfl rfl rfl rfl (t_nil' (hK87 _ _ (c_condp rfl (fun g43 => ?_) (fun g43 => ?_))))))))
   ·
    have B88 := ((((B9.keep u15 (fun h => h)).keep u20 (fun h => h)).keep u26 (fun h => h)).keep u34 (fun h => h))
    by_cases g56 : (n.frm - (tail v)) < (frst v)
    ·
     refine WC.weak [(2, .pointer (some ⟨bk2, 0, none⟩)), (3, .pointer (some ⟨bk7, 0, none⟩)), (4, .pointer (some ⟨bk12, 0, none⟩)), (5, .pointer (some ⟨bk17, 0, none⟩)), (8, .int .i64 (frst v)), (9, .int .i64 (lst v)), (10, .int .i64 (tail v))] ⟨rfl, rfl, rfl, rfl, rfl, rfl, rfl, trivial⟩ (c_drawn follows 21 [some (44, some (.pointer (some ⟨bk7, 1, none⟩))), some (45, some (.int .i64 n.to)), some (46, some (.pointer (some ⟨bk7, 0, none⟩))), some (47, some (.int .i64 n.frm)), some (48, some (.int .i64 (tail v))), some (49, some (.int .i64 (n.frm - (tail v)))), some (50, some (.int .i64 (frst v))), some (51, some (.pointer (some ⟨bk7, 0, none⟩))), some (52, some (.int .i64 n.frm)), some (53, some (.int .i64 (tail v))), some (54, some (.int .i64 (n.frm - (tail v)))), some (55, some (.bool (decide ((n.frm - (tail v)) < (frst v))))), some (56, some (.bool true)), some (57, some (.int .i64 (lst v))), some (58, some (.pointer (some ⟨bk7, 1, none⟩))), some (59, some (.int .i64 n.to)), some (60, some (.bool (decide ((lst v) < n.to)))), some (61, some (.bool (decide ((lst v) < n.to)))), some (11, some (.int .i64 n.to)), some (12, some (.int .i64 (n.frm - (tail v)))), some (13, some (.bool (decide ((lst v) < n.to))))] [[],[0],[],[2],[],[3,4],[],[],[7],[],[8,9],[6,10],[11],[12],[12],[14,12],[13,15,12],[12,16],[1,12,0,1],[5,18,0,1,2,3,4,5,18],[17,19,0,1,2,3,4,5,6,7,8,9,10,11,12,13,14,15,16,17,18,19]] (fun _ _ w => Upd (fun _ => False) w33 w) rfl rfl rfl (by kernel_rfl) (by kernel_rfl) (Upd.drew _).to ⟨?_, ?_, ?_, ?_, ?_, ?_, ?_, ?_, ?_, ?_, ?_, ?_, ?_, ?_, ?_, ?_, ?_, ?_, ?_, ?_, ?_, trivial⟩ ?_)
     · exact pzf Try.underlying72 rfl Try.sizeOf3 (1) rfl rfl rfl rfl rfl fun _ _ _ h => h
     ·
      intro D ρ w89 hcD hnD hdD hW
      have zhW := hW.size
      refine ⟨_, kf_fr [44], fun Lr => ?_⟩
      have B92 := (B88.keep hW (fun h => h))
      refine t_load Try.isAgg3 rfl rfl rfl (B92.get rfl) ?_
      exact dz rfl hW
     · exact pzf Try.underlying72 rfl Try.sizeOf3 (0) rfl rfl rfl rfl rfl fun _ _ _ h => h
     ·
      intro D ρ w93 hcD hnD hdD hW
      have zhW := hW.size
      refine ⟨_, kf_fr [46], fun Lr => ?_⟩
      have B96 := (B88.keep hW (fun h => h))
      refine t_load Try.isAgg3 rfl rfl rfl (B96.get rfl) ?_
      exact dz rfl hW
     · exact pz rfl rfl rfl rfl fun _ _ _ h => h
     ·
      intro D ρ w97 hcD hnD hdD hW
      have zhW := hW.size
      refine ⟨_, kf_fr [47, 48], fun Lr => ?_⟩
      refine t_ari rfl rfl rfl rfl rfl (by omega) ?_
      exact dz rfl hW
     · exact pz rfl rfl rfl rfl fun _ _ _ h => h
     · exact pzf Try.underlying72 rfl Try.sizeOf3 (0) rfl rfl rfl rfl rfl fun _ _ _ h => h
     ·
      intro D ρ w100 hcD hnD hdD hW
      have zhW := hW.size
      refine ⟨_, kf_fr [51], fun Lr => ?_⟩
      have B103 := (B88.keep hW (fun h => h))
      refine t_load Try.isAgg3 rfl rfl rfl (B103.get rfl) ?_
      exact dz rfl hW
     · exact pz rfl rfl rfl rfl fun _ _ _ h => h
     ·
      intro D ρ w104 hcD hnD hdD hW
      have zhW := hW.size
      refine ⟨_, kf_fr [52, 53], fun Lr => ?_⟩
      refine t_ari rfl rfl rfl rfl rfl (by omega) ?_
      exact dz rfl hW
     · exact pz rfl rfl rfl rfl fun _ _ _ h => h
     · exact fun D ρ w _ _ _ hW => ⟨[(55, .bool (decide ((n.frm - (tail v)) < (frst v))))], ⟨fi 11 rfl rfl rfl, trivial⟩, fun Lr => t_move rfl rfl rfl (t_samehd (v := .bool true) (by first | exact congrArg Value.bool (decide_eq_true g56) | exact congrArg Value.bool g56 | simp [g56]) (dz rfl hW))⟩
     · exact pz rfl rfl rfl rfl fun _ _ _ h => h
     · exact pzf Try.underlying72 rfl Try.sizeOf3 (1) rfl rfl rfl rfl rfl fun _ _ _ h => h
     ·
      intro D ρ w107 hcD hnD hdD hW
      have zhW := hW.size
      refine ⟨_, kf_fr [56, 58], fun Lr => ?_⟩
      have B110 := (B88.keep hW (fun h => h))
      refine t_load Try.isAgg3 rfl rfl rfl (B110.get rfl) ?_
      exact dz rfl hW
     · exact pz rfl rfl rfl rfl fun _ _ _ h => h
     · exact pz rfl rfl rfl rfl fun _ _ _ h => h
     · exact pz rfl rfl rfl rfl fun _ _ _ h => h
     · exact pz rfl rfl rfl rfl fun _ _ _ h => h
     · exact pz rfl rfl rfl rfl fun _ _ _ h => h
     intro ρ w111 hW
     have u112 : Upd (fun _ => False) w33 w111 := hW
     have zu112 := u112.size
     refine QK.weak [(2, .pointer (some ⟨bk2, 0, none⟩)), (4, .pointer (some ⟨bk12, 0, none⟩)), (5, .pointer (some ⟨bk17, 0, none⟩)), (11, .int .i64 n.to), (12, .int .i64 (n.frm - (tail v))), (13, .bool (decide ((lst v) < n.to)))] ⟨rfl, rfl, rfl, rfl, rfl, rfl, trivial⟩ ?_
     exact hK84 () _ _ ⟨rfl, rfl, rfl, (by exact congrArg some (by simp [entP, g43])), (by exact congrArg some (by simp [leaP, g43])), (by exact congrArg some (by simp [near, nearU, g43, g56])), trivial⟩ ((Upd.refl _ _).next u112 (fun _ _ h => h.elim))
    ·
     refine WC.weak [(2, .pointer (some ⟨bk2, 0, none⟩)), (3, .pointer (some ⟨bk7, 0, none⟩)), (4, .pointer (some ⟨bk12, 0, none⟩)), (5, .pointer (some ⟨bk17, 0, none⟩)), (8, .int .i64 (frst v)), (9, .int .i64 (lst v)), (10, .int .i64 (tail v))] ⟨rfl, rfl, rfl, rfl, rfl, rfl, rfl, trivial⟩ (c_drawn follows 21 [some (44, some (.pointer (some ⟨bk7, 1, none⟩))), some (45, some (.int .i64 n.to)), some (46, some (.pointer (some ⟨bk7, 0, none⟩))), some (47, some (.int .i64 n.frm)), some (48, some (.int .i64 (tail v))), some (49, some (.int .i64 (n.frm - (tail v)))), some (50, some (.int .i64 (frst v))), some (51, some (.pointer (some ⟨bk7, 0, none⟩))), some (52, some (.int .i64 n.frm)), some (53, some (.int .i64 (tail v))), some (54, some (.int .i64 (n.frm - (tail v)))), some (55, some (.bool (decide ((n.frm - (tail v)) < (frst v))))), some (56, some (.bool false)), some (57, some (undef)), some (58, some (undef)), some (59, some (undef)), some (60, some (undef)), some (61, some (.bool false)), some (11, some (.int .i64 n.to)), some (12, some (.int .i64 (n.frm - (tail v)))), some (13, some (.bool false))] [[],[0],[],[2],[],[3,4],[],[],[7],[],[8,9],[6,10],[11],[12],[12],[14,12],[13,15,12],[12,16],[1,12,0,1],[5,18,0,1,2,3,4,5,18],[17,19,0,1,2,3,4,5,6,7,8,9,10,11,12,13,14,15,16,17,18,19]] (fun _ _ w => Upd (fun _ => False) w33 w) rfl rfl rfl (by kernel_rfl) (by kernel_rfl) (Upd.drew _).to ⟨?_, ?_, ?_, ?_, ?_, ?_, ?_, ?_, ?_, ?_, ?_, ?_, ?_, ?_, ?_, ?_, ?_, ?_, ?_, ?_, ?_, trivial⟩ ?_)
     · exact pzf Try.underlying72 rfl Try.sizeOf3 (1) rfl rfl rfl rfl rfl fun _ _ _ h => h
     ·
      intro D ρ w114 hcD hnD hdD hW
      have zhW := hW.size
      refine ⟨_, kf_fr [44], fun Lr => ?_⟩
      have B117 := (B88.keep hW (fun h => h))
      refine t_load Try.isAgg3 rfl rfl rfl (B117.get rfl) ?_
      exact dz rfl hW
     · exact pzf Try.underlying72 rfl Try.sizeOf3 (0) rfl rfl rfl rfl rfl fun _ _ _ h => h
     ·
      intro D ρ w118 hcD hnD hdD hW
      have zhW := hW.size
      refine ⟨_, kf_fr [46], fun Lr => ?_⟩
      have B121 := (B88.keep hW (fun h => h))
      refine t_load Try.isAgg3 rfl rfl rfl (B121.get rfl) ?_
      exact dz rfl hW
     · exact pz rfl rfl rfl rfl fun _ _ _ h => h
     ·
      intro D ρ w122 hcD hnD hdD hW
      have zhW := hW.size
      refine ⟨_, kf_fr [47, 48], fun Lr => ?_⟩
      refine t_ari rfl rfl rfl rfl rfl (by omega) ?_
      exact dz rfl hW
     · exact pz rfl rfl rfl rfl fun _ _ _ h => h
     · exact pzf Try.underlying72 rfl Try.sizeOf3 (0) rfl rfl rfl rfl rfl fun _ _ _ h => h
     ·
      intro D ρ w125 hcD hnD hdD hW
      have zhW := hW.size
      refine ⟨_, kf_fr [51], fun Lr => ?_⟩
      have B128 := (B88.keep hW (fun h => h))
      refine t_load Try.isAgg3 rfl rfl rfl (B128.get rfl) ?_
      exact dz rfl hW
     · exact pz rfl rfl rfl rfl fun _ _ _ h => h
     ·
      intro D ρ w129 hcD hnD hdD hW
      have zhW := hW.size
      refine ⟨_, kf_fr [52, 53], fun Lr => ?_⟩
      refine t_ari rfl rfl rfl rfl rfl (by omega) ?_
      exact dz rfl hW
     · exact pz rfl rfl rfl rfl fun _ _ _ h => h
     · exact fun D ρ w _ _ _ hW => ⟨[(55, .bool (decide ((n.frm - (tail v)) < (frst v))))], ⟨fi 11 rfl rfl rfl, trivial⟩, fun Lr => t_move rfl rfl rfl (t_samehd (v := .bool false) (by first | exact congrArg Value.bool (decide_eq_false g56) | exact congrArg Value.bool g56 | simp [g56]) (dz rfl hW))⟩
     · exact pz rfl rfl rfl rfl fun _ _ _ h => h
     · exact pz rfl rfl rfl rfl fun _ _ _ h => h
     · exact pz rfl rfl rfl rfl fun _ _ _ h => h
     · exact pz rfl rfl rfl rfl fun _ _ _ h => h
     · exact pz rfl rfl rfl rfl fun _ _ _ h => h
     · exact pz rfl rfl rfl rfl fun _ _ _ h => h
     · exact pz rfl rfl rfl rfl fun _ _ _ h => h
     · exact pz rfl rfl rfl rfl fun _ _ _ h => h
     intro ρ w132 hW
     have u133 : Upd (fun _ => False) w33 w132 := hW
     have zu133 := u133.size
     refine QK.weak [(2, .pointer (some ⟨bk2, 0, none⟩)), (4, .pointer (some ⟨bk12, 0, none⟩)), (5, .pointer (some ⟨bk17, 0, none⟩)), (11, .int .i64 n.to), (12, .int .i64 (n.frm - (tail v))), (13, .bool false)] ⟨rfl, rfl, rfl, rfl, rfl, rfl, trivial⟩ ?_
     exact hK84 () _ _ ⟨rfl, rfl, rfl, (by exact congrArg some (by simp [entP, g43])), (by exact congrArg some (by simp [leaP, g43])), (by exact congrArg some (by simp [near, nearU, g43, g56])), trivial⟩ ((Upd.refl _ _).next u133 (fun _ _ h => h.elim))
   ·
    refine c_skip ?_
    exact hK84 () _ _ ⟨rfl, rfl, rfl, (by exact congrArg some (by simp [entP, g43])), (by exact congrArg some (by simp [leaP, g43])), (by exact congrArg some (by simp [near, g43])), trivial⟩ (Upd.refl _ _)
  ·
   intro _x w85 u86
   have zu86 := u86.size
   have E135 := E82.next u86 (fun _ _ h => h.elim)
   refine c_seq fun K136 hK136 => (c_seq fun K137 hK137 => (c_region (t_move rfl rfl rfl (t_not rfl rfl rfl (t_nil' (hK137 _ _ (c_cond rfl (fun g63 => ?_) (fun g63 => ?_))))))))
   ·
    refine c_seq fun K138 hK138 => (c_region (t_build (ps := []) (v := .agg #[.int .i64 0, .int .i64 0]) rfl rfl ⟨rfl, rfl⟩ (fun w => by kernel_rfl) (t_build (ps := []) (v := .agg #[.int .i64 0, .int .i64 0]) rfl rfl ⟨rfl, rfl⟩ (fun w => by kernel_rfl) ?_)))
    have B139 := ((((B14.keep u20 (fun h => h)).keep u26 (fun h => h)).keep u34 (fun h => h)).keep u86 (fun h => h))
    refine t_store (vs := [.int .i64 0, .int .i64 0]) Try.sizeOf45 rfl rfl rfl B139 rfl rfl (Nat.le_of_ble_eq_true rfl) (by simp [Value.oneCell']) (fun w140 sw140 B142 u141 => ?_)
    have zu141 := u141.size
    have E143 := E135.next u141 (fun i hi (h : i = bk12) => show False by first | omega | assumption)
    have B142 : Blk w140 bk12 45 [.int .i64 0, .int .i64 0] := B142
    have B144 := ((((B19.keep u26 (fun h => h)).keep u34 (fun h => h)).keep u86 (fun h => h)).keep u141 (show ¬ (bk17 = bk12) by first | omega | assumption))
    refine t_store (vs := [.int .i64 0, .int .i64 0]) Try.sizeOf45 rfl rfl rfl B144 rfl rfl (Nat.le_of_ble_eq_true rfl) (by simp [Value.oneCell']) (fun w145 sw145 B147 u146 => ?_)
    have zu146 := u146.size
    have E148 := E143.next u146 (fun i hi (h : i = bk17) => show False by first | omega | assumption)
    have B147 : Blk w145 bk17 45 [.int .i64 0, .int .i64 0] := B147
    refine t_assign rfl rfl rfl (t_assign rfl rfl rfl (t_nil' (hK138 _ _ (c_ret ?_))))
    have B149 := (B142.keep u146 (show ¬ (bk12 = bk17) by first | omega | assumption))
    refine f_ret4 (v1 := .agg #[.int .i64 0, .int .i64 0]) (v2 := .agg #[.int .i64 0, .int .i64 0]) (v3 := .bool false) (v4 := .int .i64 0) Try.results43 ⟨_, _, rfl, run_loadVarN (vs := [.int .i64 0, .int .i64 0]) Try.isAgg45 Try.sizeOf45 rfl (B149.at.sub 0 2)⟩ ⟨_, _, rfl, run_loadVarN (vs := [.int .i64 0, .int .i64 0]) Try.isAgg45 Try.sizeOf45 rfl (B147.at.sub 0 2)⟩ rfl rfl ?_
    exact ⟨by simp_all [thrE, thrS, onWay_two], E148⟩
   ·
    refine c_skip (hK136 _ _ (c_seq fun K150 hK150 => (c_seq fun K151 hK151 => (c_region ?_))))
    have B152 := ((B30.keep u34 (fun h => h)).keep u86 (fun h => h))
    refine t_loadN (vs := [.int .i64 v.st.lo, .int .i64 v.st.hi, .slice ao ((v.runs).length) cap, .int .i64 v.len, .int .i64 v.wid]) Try.isAgg48 Try.sizeOf48 rfl rfl rfl (B152.at.sub 0 5) rfl (t_move rfl rfl rfl (t_call (vs := [.agg #[.int .i64 v.st.lo, .int .i64 v.st.hi, .slice ao ((v.runs).length) cap, .int .i64 v.len, .int .i64 v.wid], .int .i64 (entP v n)]) own33 rfl rfl rfl rfl (On_c v ao b o cap (entP v n) _ (hs.keep E135 (fun _ h => h)) (okGo.rng hk).pos (by have := (okGo.rng hk).few; omega)) (fun v153 w154 r156 => ?_)))
    obtain ⟨rfl, u155⟩ := r156
    have zu155 := u155.size
    have E157 := E135.next u155 (fun _ _ h => h.elim)
    refine t_not rfl rfl rfl (t_move rfl rfl rfl (t_split 70 rfl (fun g70 => ?_) (fun g70 => ?_)))
    ·
     have ho1 : onWay v [entP v n] = false := by simpa using g70
     refine t_skip rfl rfl rfl (t_skip rfl rfl rfl (t_skip rfl rfl rfl (t_skip rfl rfl rfl (t_pick_t rfl rfl rfl rfl (t_nil' (hK151 _ _ (c_cond_t rfl (c_seq fun K158 hK158 => (c_region (t_build (ps := []) (v := .agg #[.int .i64 0, .int .i64 0]) rfl rfl ⟨rfl, rfl⟩ (fun w => by kernel_rfl) (t_build (ps := []) (v := .agg #[.int .i64 0, .int .i64 0]) rfl rfl ⟨rfl, rfl⟩ (fun w => by kernel_rfl) ?_)))))))))))
     have B159 := (((((B14.keep u20 (fun h => h)).keep u26 (fun h => h)).keep u34 (fun h => h)).keep u86 (fun h => h)).keep u155 (fun h => h))
     refine t_store (vs := [.int .i64 0, .int .i64 0]) Try.sizeOf45 rfl rfl rfl B159 rfl rfl (Nat.le_of_ble_eq_true rfl) (by simp [Value.oneCell']) (fun w160 sw160 B162 u161 => ?_)
     have zu161 := u161.size
     have E163 := E157.next u161 (fun i hi (h : i = bk12) => show False by first | omega | assumption)
     have B162 : Blk w160 bk12 45 [.int .i64 0, .int .i64 0] := B162
     have B164 := (((((B19.keep u26 (fun h => h)).keep u34 (fun h => h)).keep u86 (fun h => h)).keep u155 (fun h => h)).keep u161 (show ¬ (bk17 = bk12) by first | omega | assumption))
     refine t_store (vs := [.int .i64 0, .int .i64 0]) Try.sizeOf45 rfl rfl rfl B164 rfl rfl (Nat.le_of_ble_eq_true rfl) (by simp [Value.oneCell']) (fun w165 sw165 B167 u166 => ?_)
     have zu166 := u166.size
     have E168 := E163.next u166 (fun i hi (h : i = bk17) => show False by first | omega | assumption)
     have B167 : Blk w165 bk17 45 [.int .i64 0, .int .i64 0] := B167
     refine t_assign rfl rfl rfl (t_assign rfl rfl rfl (t_nil' (hK158 _ _ (c_ret ?_))))
     have B169 := (B162.keep u166 (show ¬ (bk12 = bk17) by first | omega | assumption))
     refine f_ret4 (v1 := .agg #[.int .i64 0, .int .i64 0]) (v2 := .agg #[.int .i64 0, .int .i64 0]) (v3 := .bool false) (v4 := .int .i64 9) Try.results43 ⟨_, _, rfl, run_loadVarN (vs := [.int .i64 0, .int .i64 0]) Try.isAgg45 Try.sizeOf45 rfl (B169.at.sub 0 2)⟩ ⟨_, _, rfl, run_loadVarN (vs := [.int .i64 0, .int .i64 0]) Try.isAgg45 Try.sizeOf45 rfl (B167.at.sub 0 2)⟩ rfl rfl ?_
     exact ⟨by simp_all [thrE, thrS, onWay_two], E168⟩
    ·
     have ho1 : onWay v [entP v n] = true := by simpa using g70
     have B170 := (B152.keep u155 (fun h => h))
     refine t_loadN (vs := [.int .i64 v.st.lo, .int .i64 v.st.hi, .slice ao ((v.runs).length) cap, .int .i64 v.len, .int .i64 v.wid]) Try.isAgg48 Try.sizeOf48 rfl rfl rfl (B170.at.sub 0 5) rfl (t_move rfl rfl rfl (t_call (vs := [.agg #[.int .i64 v.st.lo, .int .i64 v.st.hi, .slice ao ((v.runs).length) cap, .int .i64 v.len, .int .i64 v.wid], .int .i64 (leaP v n)]) own33 rfl rfl rfl rfl (On_c v ao b o cap (leaP v n) _ (hs.keep E157 (fun _ h => h)) (okGo.rng hk).pos (by have := (okGo.rng hk).few; omega)) (fun v171 w172 r174 => ?_)))
     obtain ⟨rfl, u173⟩ := r174
     have zu173 := u173.size
     have E175 := E157.next u173 (fun _ _ h => h.elim)
     refine t_not rfl rfl rfl (t_pick_f rfl rfl rfl rfl (t_nil' (hK151 _ _ (c_cond rfl (fun g75 => ?_) (fun g75 => ?_)))))
     ·
      have ho2 : onWay v [leaP v n] = false := by simpa using g75
      refine c_seq fun K176 hK176 => (c_region (t_build (ps := []) (v := .agg #[.int .i64 0, .int .i64 0]) rfl rfl ⟨rfl, rfl⟩ (fun w => by kernel_rfl) (t_build (ps := []) (v := .agg #[.int .i64 0, .int .i64 0]) rfl rfl ⟨rfl, rfl⟩ (fun w => by kernel_rfl) ?_)))
      have B177 := ((((((B14.keep u20 (fun h => h)).keep u26 (fun h => h)).keep u34 (fun h => h)).keep u86 (fun h => h)).keep u155 (fun h => h)).keep u173 (fun h => h))
      refine t_store (vs := [.int .i64 0, .int .i64 0]) Try.sizeOf45 rfl rfl rfl B177 rfl rfl (Nat.le_of_ble_eq_true rfl) (by simp [Value.oneCell']) (fun w178 sw178 B180 u179 => ?_)
      have zu179 := u179.size
      have E181 := E175.next u179 (fun i hi (h : i = bk12) => show False by first | omega | assumption)
      have B180 : Blk w178 bk12 45 [.int .i64 0, .int .i64 0] := B180
      have B182 := ((((((B19.keep u26 (fun h => h)).keep u34 (fun h => h)).keep u86 (fun h => h)).keep u155 (fun h => h)).keep u173 (fun h => h)).keep u179 (show ¬ (bk17 = bk12) by first | omega | assumption))
      refine t_store (vs := [.int .i64 0, .int .i64 0]) Try.sizeOf45 rfl rfl rfl B182 rfl rfl (Nat.le_of_ble_eq_true rfl) (by simp [Value.oneCell']) (fun w183 sw183 B185 u184 => ?_)
      have zu184 := u184.size
      have E186 := E181.next u184 (fun i hi (h : i = bk17) => show False by first | omega | assumption)
      have B185 : Blk w183 bk17 45 [.int .i64 0, .int .i64 0] := B185
      refine t_assign rfl rfl rfl (t_assign rfl rfl rfl (t_nil' (hK176 _ _ (c_ret ?_))))
      have B187 := (B180.keep u184 (show ¬ (bk12 = bk17) by first | omega | assumption))
      refine f_ret4 (v1 := .agg #[.int .i64 0, .int .i64 0]) (v2 := .agg #[.int .i64 0, .int .i64 0]) (v3 := .bool false) (v4 := .int .i64 9) Try.results43 ⟨_, _, rfl, run_loadVarN (vs := [.int .i64 0, .int .i64 0]) Try.isAgg45 Try.sizeOf45 rfl (B187.at.sub 0 2)⟩ ⟨_, _, rfl, run_loadVarN (vs := [.int .i64 0, .int .i64 0]) Try.isAgg45 Try.sizeOf45 rfl (B185.at.sub 0 2)⟩ rfl rfl ?_
      exact ⟨by simp_all [thrE, thrS, onWay_two], E186⟩
     ·
      have ho2 : onWay v [leaP v n] = true := by simpa using g75
      refine c_skip (hK150 _ _ (c_seq fun K188 hK188 => ?_))
      have B189 := (B170.keep u173 (fun h => h))
      have B190 := ((((((B14.keep u20 (fun h => h)).keep u26 (fun h => h)).keep u34 (fun h => h)).keep u86 (fun h => h)).keep u155 (fun h => h)).keep u173 (fun h => h))
      have B191 := (((((B19.keep u26 (fun h => h)).keep u34 (fun h => h)).keep u86 (fun h => h)).keep u155 (fun h => h)).keep u173 (fun h => h))
      refine WC.weak [(2, .pointer (some ⟨bk2, 0, none⟩)), (4, .pointer (some ⟨bk12, 0, none⟩)), (5, .pointer (some ⟨bk17, 0, none⟩)), (11, .int .i64 (entP v n)), (12, .int .i64 (leaP v n))] ⟨rfl, rfl, rfl, rfl, rfl, trivial⟩ (c_drawn follows 10 [some (78, some (.agg #[.int .i64 v.st.lo, .int .i64 v.st.hi, .slice ao ((v.runs).length) cap, .int .i64 v.len, .int .i64 v.wid])), some (79, some (.int .i64 (entP v n))), some (80, some (.agg #[.int .i64 ((arr v (entP v n)).lo), .int .i64 ((arr v (entP v n)).hi)])), some (81, some (.agg #[.int .i64 v.st.lo, .int .i64 v.st.hi, .slice ao ((v.runs).length) cap, .int .i64 v.len, .int .i64 v.wid])), some (82, some (.int .i64 (leaP v n))), some (83, some (.agg #[.int .i64 ((arr v (leaP v n)).lo), .int .i64 ((arr v (leaP v n)).hi)])), none, none, some (6, some (.bool true)), some (7, some (.int .i64 0))] [[],[],[0,1],[],[],[3,4,2],[2,5,0,1,2],[5,6,0,1,2,3,4,5,6],[7,0,1,2,3,4,5,6,7],[8,0,1,2,3,4,5,6,7,8]] (fun D _ w => Upd (fun i => i = bk12 ∨ i = bk17) w172 w ∧ Blk w bk12 45 [(bif D 6 then .int .i64 ((arr v (entP v n)).lo) else .int .i64 0), (bif D 6 then .int .i64 ((arr v (entP v n)).hi) else .int .i64 0)] ∧ Blk w bk17 45 [(bif D 7 then .int .i64 ((arr v (leaP v n)).lo) else .int .i64 0), (bif D 7 then .int .i64 ((arr v (leaP v n)).hi) else .int .i64 0)]) rfl rfl rfl (by kernel_rfl) (by kernel_rfl) ⟨(Upd.drew _).to, (B190.keep (Upd.drew _) (fun h => h)), (B191.keep (Upd.drew _) (fun h => h))⟩ ⟨?_, ?_, ?_, ?_, ?_, ?_, ?_, ?_, ?_, ?_, trivial⟩ ?_)
      ·
       intro D ρ w203 hcD hnD hdD hW
       obtain ⟨u204, B205, B206⟩ := hW
       have zu204 := u204.size
       have d6 := hcD.late 6 hnD rfl
       have B208 := B205
       simp only [d6, cond_false] at B208
       have d7 := hcD.late 7 hnD rfl
       have B209 := B206
       simp only [d7, cond_false] at B209
       refine ⟨_, kf_fr [2], fun Lr => ?_⟩
       have B210 := (B189.keep u204 (show ¬ (bk2 = bk12 ∨ bk2 = bk17) by first | omega | assumption))
       refine t_loadN (vs := [.int .i64 v.st.lo, .int .i64 v.st.hi, .slice ao ((v.runs).length) cap, .int .i64 v.len, .int .i64 v.wid]) Try.isAgg48 Try.sizeOf48 rfl rfl rfl (B210.at.sub 0 5) rfl ?_
       exact dz rfl ⟨u204, B205, B206⟩
      · exact pz rfl rfl rfl rfl fun _ _ _ h => h
      ·
       intro D ρ w211 hcD hnD hdD hW
       obtain ⟨u212, B213, B214⟩ := hW
       have zu212 := u212.size
       have E215 := E175.next u212 (fun i hi (h : i = bk12 ∨ i = bk17) => show False by first | omega | assumption)
       have d6 := hcD.late 6 hnD rfl
       have B216 := B213
       simp only [d6, cond_false] at B216
       have d7 := hcD.late 7 hnD rfl
       have B217 := B214
       simp only [d7, cond_false] at B217
       refine ⟨_, kf_fr [78, 79], fun Lr => ?_⟩
       refine t_call (vs := [.agg #[.int .i64 v.st.lo, .int .i64 v.st.hi, .slice ao ((v.runs).length) cap, .int .i64 v.len, .int .i64 v.wid], .int .i64 (entP v n)]) own34 rfl rfl rfl rfl (rArriveG_c v ao b o cap (entP v n) _ (hs.keep E215 (fun _ h => h)) hk ho1) (fun v218 w219 r221 => ?_)
       obtain ⟨rfl, u220⟩ := r221
       have zu220 := u220.size
       exact dz rfl ⟨(u212.next u220 (fun _ _ h => h.elim)), (B213.keep u220 (fun h => h)), (B214.keep u220 (fun h => h))⟩
      ·
       intro D ρ w223 hcD hnD hdD hW
       obtain ⟨u224, B225, B226⟩ := hW
       have zu224 := u224.size
       have d7 := hcD.late 7 hnD rfl
       have B228 := B226
       simp only [d7, cond_false] at B228
       refine ⟨_, kf_fr [2], fun Lr => ?_⟩
       have B229 := (B189.keep u224 (show ¬ (bk2 = bk12 ∨ bk2 = bk17) by first | omega | assumption))
       refine t_loadN (vs := [.int .i64 v.st.lo, .int .i64 v.st.hi, .slice ao ((v.runs).length) cap, .int .i64 v.len, .int .i64 v.wid]) Try.isAgg48 Try.sizeOf48 rfl rfl rfl (B229.at.sub 0 5) rfl ?_
       exact dz rfl ⟨u224, B225, B226⟩
      · exact pz rfl rfl rfl rfl fun _ _ _ h => h
      ·
       intro D ρ w230 hcD hnD hdD hW
       obtain ⟨u231, B232, B233⟩ := hW
       have zu231 := u231.size
       have E234 := E175.next u231 (fun i hi (h : i = bk12 ∨ i = bk17) => show False by first | omega | assumption)
       have d6 := hcD.late 6 hnD rfl
       have B235 := B232
       simp only [d6, cond_false] at B235
       have d7 := hcD.late 7 hnD rfl
       have B236 := B233
       simp only [d7, cond_false] at B236
       refine ⟨_, kf_fr [81, 82], fun Lr => ?_⟩
       refine t_call (vs := [.agg #[.int .i64 v.st.lo, .int .i64 v.st.hi, .slice ao ((v.runs).length) cap, .int .i64 v.len, .int .i64 v.wid], .int .i64 (leaP v n)]) own34 rfl rfl rfl rfl (rArriveG_c v ao b o cap (leaP v n) _ (hs.keep E234 (fun _ h => h)) hk ho2) (fun v237 w238 r240 => ?_)
       obtain ⟨rfl, u239⟩ := r240
       have zu239 := u239.size
       exact dz rfl ⟨(u231.next u239 (fun _ _ h => h.elim)), (B232.keep u239 (fun h => h)), (B233.keep u239 (fun h => h))⟩
      ·
       intro D ρ w242 hcD hnD hdD hW
       obtain ⟨u243, B244, B245⟩ := hW
       have zu243 := u243.size
       have B247 := B244
       simp only [hnD, cond_false] at B247
       have d7 := hcD.late 7 hnD rfl
       have B248 := B245
       simp only [d7, cond_false] at B248
       refine ⟨_, kf_fr [4, 80], fun Lr => ?_⟩
       refine t_store (vs := [.int .i64 ((arr v (entP v n)).lo), .int .i64 ((arr v (entP v n)).hi)]) Try.sizeOf45 rfl rfl rfl B247 rfl rfl (Nat.le_of_ble_eq_true rfl) (by simp [Value.oneCell']) (fun w249 sw249 B251 u250 => ?_)
       have zu250 := u250.size
       have B251 : Blk w249 bk12 45 [.int .i64 ((arr v (entP v n)).lo), .int .i64 ((arr v (entP v n)).hi)] := B251
       exact dz0 rfl ⟨(u243.next u250 (fun i hi (h : i = bk12) => show i = bk12 ∨ i = bk17 by first | omega | assumption)), (by show Blk w249 bk12 45 [.int .i64 ((arr v (entP v n)).lo), .int .i64 ((arr v (entP v n)).hi)]; exact B251), (B245.keep u250 (show ¬ (bk17 = bk12) by first | omega | assumption))⟩
      ·
       intro D ρ w253 hcD hnD hdD hW
       obtain ⟨u254, B255, B256⟩ := hW
       have zu254 := u254.size
       have d6 := hdD 6 rfl
       have B258 := B255
       simp only [d6, cond_true] at B258
       have B259 := B256
       simp only [hnD, cond_false] at B259
       refine ⟨_, kf_fr [5, 83], fun Lr => ?_⟩
       refine t_store (vs := [.int .i64 ((arr v (leaP v n)).lo), .int .i64 ((arr v (leaP v n)).hi)]) Try.sizeOf45 rfl rfl rfl B259 rfl rfl (Nat.le_of_ble_eq_true rfl) (by simp [Value.oneCell']) (fun w260 sw260 B262 u261 => ?_)
       have zu261 := u261.size
       have B262 : Blk w260 bk17 45 [.int .i64 ((arr v (leaP v n)).lo), .int .i64 ((arr v (leaP v n)).hi)] := B262
       exact dz0 rfl ⟨(u254.next u261 (fun i hi (h : i = bk17) => show i = bk12 ∨ i = bk17 by first | omega | assumption)), (B255.keep u261 (show ¬ (bk12 = bk17) by first | omega | assumption)), (by show Blk w260 bk17 45 [.int .i64 ((arr v (leaP v n)).lo), .int .i64 ((arr v (leaP v n)).hi)]; exact B262)⟩
      · exact pz rfl rfl rfl rfl fun _ _ _ h => h
      · exact pz rfl rfl rfl rfl fun _ _ _ h => h
      intro ρ w264 hW
      obtain ⟨u265, B266, B267⟩ := hW
      have zu265 := u265.size
      have E268 := E175.next u265 (fun i hi (h : i = bk12 ∨ i = bk17) => show False by first | omega | assumption)
      have B266 : Blk w264 bk12 45 [.int .i64 ((arr v (entP v n)).lo), .int .i64 ((arr v (entP v n)).hi)] := B266
      have B267 : Blk w264 bk17 45 [.int .i64 ((arr v (leaP v n)).lo), .int .i64 ((arr v (leaP v n)).hi)] := B267
      refine QK.weak [(4, .pointer (some ⟨bk12, 0, none⟩)), (5, .pointer (some ⟨bk17, 0, none⟩)), (6, .bool true), (7, .int .i64 0)] ⟨rfl, rfl, rfl, rfl, trivial⟩ (hK188 _ _ (c_ret (f_ret4 (v1 := .agg #[.int .i64 ((arr v (entP v n)).lo), .int .i64 ((arr v (entP v n)).hi)]) (v2 := .agg #[.int .i64 ((arr v (leaP v n)).lo), .int .i64 ((arr v (leaP v n)).hi)]) (v3 := .bool true) (v4 := .int .i64 0) Try.results43 ⟨_, _, rfl, run_loadVarN (vs := [.int .i64 ((arr v (entP v n)).lo), .int .i64 ((arr v (entP v n)).hi)]) Try.isAgg45 Try.sizeOf45 rfl (B266.at.sub 0 2)⟩ ⟨_, _, rfl, run_loadVarN (vs := [.int .i64 ((arr v (leaP v n)).lo), .int .i64 ((arr v (leaP v n)).hi)]) Try.isAgg45 Try.sizeOf45 rfl (B267.at.sub 0 2)⟩ rfl rfl ?_)))
      exact ⟨by simp_all [thrE, thrS, onWay_two], E268⟩

set_option maxHeartbeats 1000000 in
theorem rMeetG_c (a : Voy) (ao1 : Option Addr) (b1 o1 cap1 : Nat) (b : Voy) (ao2 : Option Addr) (b2 o2 cap2 : Nat) (n : Nar) (w0 : World) (hs1 : Sl encRun 6 w0 ao1 b1 o1 a.runs) (hs2 : Sl encRun 6 w0 ao2 b2 o2 b.runs) (hk1 : okGo a) (hk2 : okGo b) (hm : okNar n = true) (he1 : thrE a n = 0) (he2 : thrE b n = 0) :
    CallsV Try.prog 44 [.agg #[.int .i64 a.st.lo, .int .i64 a.st.hi, .slice ao1 ((a.runs).length) cap1, .int .i64 a.len, .int .i64 a.wid], .agg #[.int .i64 b.st.lo, .int .i64 b.st.hi, .slice ao2 ((b.runs).length) cap2, .int .i64 b.len, .int .i64 b.wid], .agg #[.int .i64 n.frm, .int .i64 n.to, .int .i64 n.wid, .bool n.single]] w0 (fun x w' => x = .tuple #[.bool (mayB (thrS a n) (thrS b n)), .bool (mustB (thrS a n) (thrS b n)), .int .i64 0] ∧ Ext w0 w') := by
 have E0 := Upd.refl (fun _ => False) w0
 refine f_enter (N := 70) Try.func44 rfl rfl rfl ?_
 change WC _ _ _ _ _ _ [(0, .agg #[.int .i64 a.st.lo, .int .i64 a.st.hi, .slice ao1 ((a.runs).length) cap1, .int .i64 a.len, .int .i64 a.wid]), (1, .agg #[.int .i64 b.st.lo, .int .i64 b.st.hi, .slice ao2 ((b.runs).length) cap2, .int .i64 b.len, .int .i64 b.wid]), (2, .agg #[.int .i64 n.frm, .int .i64 n.to, .int .i64 n.wid, .bool n.single])] _
 refine c_seq fun K1 hK1 => (c_region (t_box (cs := [.int .i64 a.st.lo, .int .i64 a.st.hi, .slice ao1 ((a.runs).length) cap1, .int .i64 a.len, .int .i64 a.wid]) rfl rfl rfl rfl (fun bk2 w3 ebk2 sbk2 B4 u5 => ?_)))
 have zu5 := u5.size
 have E6 := E0.next u5 (fun _ _ h => h.elim)
 refine t_box (cs := [.int .i64 b.st.lo, .int .i64 b.st.hi, .slice ao2 ((b.runs).length) cap2, .int .i64 b.len, .int .i64 b.wid]) rfl rfl rfl rfl (fun bk7 w8 ebk7 sbk7 B9 u10 => ?_)
 have zu10 := u10.size
 have E11 := E6.next u10 (fun _ _ h => h.elim)
 refine t_box (cs := [.int .i64 n.frm, .int .i64 n.to, .int .i64 n.wid, .bool n.single]) rfl rfl rfl rfl (fun bk12 w13 ebk12 sbk12 B14 u15 => ?_)
 have zu15 := u15.size
 have E16 := E11.next u15 (fun _ _ h => h.elim)
 refine t_assign rfl rfl rfl (t_assign rfl rfl rfl (t_assign rfl rfl rfl (t_nil' (hK1 _ _ (c_seq fun K17 hK17 => (c_region ?_))))))
 have B18 := ((B4.keep u10 (fun h => h)).keep u15 (fun h => h))
 refine t_loadN (vs := [.int .i64 a.st.lo, .int .i64 a.st.hi, .slice ao1 ((a.runs).length) cap1, .int .i64 a.len, .int .i64 a.wid]) Try.isAgg48 Try.sizeOf48 rfl rfl rfl (B18.at.sub 0 5) rfl (t_loadN (vs := [.int .i64 n.frm, .int .i64 n.to, .int .i64 n.wid, .bool n.single]) Try.isAgg72 Try.sizeOf72 rfl rfl rfl (B14.at.sub 0 4) rfl (t_call (vs := [.agg #[.int .i64 a.st.lo, .int .i64 a.st.hi, .slice ao1 ((a.runs).length) cap1, .int .i64 a.len, .int .i64 a.wid], .agg #[.int .i64 n.frm, .int .i64 n.to, .int .i64 n.wid, .bool n.single]]) own43 rfl rfl rfl rfl (rThroughG_c a ao1 b1 o1 cap1 n _ (hs1.keep E16 (fun _ h => h)) hk1 hm) (fun v19 w20 r22 => ?_)))
 obtain ⟨rfl, u21⟩ := r22
 have zu21 := u21.size
 have E23 := E16.next u21 (fun _ _ h => h.elim)
 refine t_move rfl rfl rfl (t_extract (vs := [.agg #[.int .i64 ((thrS a n).inn.lo), .int .i64 ((thrS a n).inn.hi)], .agg #[.int .i64 ((thrS a n).out.lo), .int .i64 ((thrS a n).out.hi)], .bool ((thrS a n).there), .int .i64 (thrE a n)]) rfl rfl rfl rfl (t_extract (vs := [.agg #[.int .i64 ((thrS a n).inn.lo), .int .i64 ((thrS a n).inn.hi)], .agg #[.int .i64 ((thrS a n).out.lo), .int .i64 ((thrS a n).out.hi)], .bool ((thrS a n).there), .int .i64 (thrE a n)]) rfl rfl rfl rfl (t_extract (vs := [.agg #[.int .i64 ((thrS a n).inn.lo), .int .i64 ((thrS a n).inn.hi)], .agg #[.int .i64 ((thrS a n).out.lo), .int .i64 ((thrS a n).out.hi)], .bool ((thrS a n).there), .int .i64 (thrE a n)]) rfl rfl rfl rfl (t_extract (vs := [.agg #[.int .i64 ((thrS a n).inn.lo), .int .i64 ((thrS a n).inn.hi)], .agg #[.int .i64 ((thrS a n).out.lo), .int .i64 ((thrS a n).out.hi)], .bool ((thrS a n).there), .int .i64 (thrE a n)]) rfl rfl rfl rfl (t_alloc (cs := [.int .i64 0, .int .i64 0]) Try.zeroValue45 rfl rfl rfl (fun bk24 w25 ebk24 sbk24 B26 u27 => ?_))))))
 have zu27 := u27.size
 have E28 := E23.next u27 (fun _ _ h => h.elim)
 refine t_alloc (cs := [.int .i64 0, .int .i64 0]) Try.zeroValue45 rfl rfl rfl (fun bk29 w30 ebk29 sbk29 B31 u32 => ?_)
 have zu32 := u32.size
 have E33 := E28.next u32 (fun _ _ h => h.elim)
 have B34 := (B26.keep u32 (fun h => h))
 refine t_store (vs := [.int .i64 ((thrS a n).inn.lo), .int .i64 ((thrS a n).inn.hi)]) Try.sizeOf45 rfl rfl rfl B34 rfl rfl (Nat.le_of_ble_eq_true rfl) (by simp [Value.oneCell']) (fun w35 sw35 B37 u36 => ?_)
 have zu36 := u36.size
 have E38 := E33.next u36 (fun i hi (h : i = bk24) => show False by first | omega | assumption)
 have B37 : Blk w35 bk24 45 [.int .i64 ((thrS a n).inn.lo), .int .i64 ((thrS a n).inn.hi)] := B37
 have B39 := (B31.keep u36 (show ¬ (bk29 = bk24) by first | omega | assumption))
 refine t_store (vs := [.int .i64 ((thrS a n).out.lo), .int .i64 ((thrS a n).out.hi)]) Try.sizeOf45 rfl rfl rfl B39 rfl rfl (Nat.le_of_ble_eq_true rfl) (by simp [Value.oneCell']) (fun w40 sw40 B42 u41 => ?_)
 have zu41 := u41.size
 have E43 := E38.next u41 (fun i hi (h : i = bk29) => show False by first | omega | assumption)
 have B42 : Blk w40 bk29 45 [.int .i64 ((thrS a n).out.lo), .int .i64 ((thrS a n).out.hi)] := B42
 refine t_assign rfl rfl rfl (t_assign rfl rfl rfl (t_nil' (hK17 _ _ (c_seq fun K44 hK44 => (c_seq fun K45 hK45 => (c_region (t_move rfl rfl rfl (t_cmp rfl rfl rfl rfl rfl (t_nil' (hK45 _ _ (c_condp rfl (fun g25 => ?_) (fun g25 => ?_))))))))))))
 ·
  refine c_seq fun K46 hK46 => (c_region (t_move rfl rfl rfl (t_assign rfl rfl rfl (t_assign rfl rfl rfl (t_assign rfl rfl rfl (t_nil' (hK46 _ _ (c_ret (f_ret3 (v1 := .bool false) (v2 := .bool false) (v3 := .int .i64 (thrE a n)) Try.results44 rfl rfl rfl ?_)))))))))
  exact ⟨by simp_all [mayB, mustB] <;> first | omega | (intro _; omega), E43⟩
 ·
  refine c_skip (hK44 _ _ (c_seq fun K47 hK47 => (c_region ?_)))
  have B48 := ((((((B9.keep u15 (fun h => h)).keep u21 (fun h => h)).keep u27 (fun h => h)).keep u32 (fun h => h)).keep u36 (show ¬ (bk7 = bk24) by first | omega | assumption)).keep u41 (show ¬ (bk7 = bk29) by first | omega | assumption))
  refine t_loadN (vs := [.int .i64 b.st.lo, .int .i64 b.st.hi, .slice ao2 ((b.runs).length) cap2, .int .i64 b.len, .int .i64 b.wid]) Try.isAgg48 Try.sizeOf48 rfl rfl rfl (B48.at.sub 0 5) rfl ?_
  have B49 := (((((B14.keep u21 (fun h => h)).keep u27 (fun h => h)).keep u32 (fun h => h)).keep u36 (show ¬ (bk12 = bk24) by first | omega | assumption)).keep u41 (show ¬ (bk12 = bk29) by first | omega | assumption))
  refine t_loadN (vs := [.int .i64 n.frm, .int .i64 n.to, .int .i64 n.wid, .bool n.single]) Try.isAgg72 Try.sizeOf72 rfl rfl rfl (B49.at.sub 0 4) rfl (t_call (vs := [.agg #[.int .i64 b.st.lo, .int .i64 b.st.hi, .slice ao2 ((b.runs).length) cap2, .int .i64 b.len, .int .i64 b.wid], .agg #[.int .i64 n.frm, .int .i64 n.to, .int .i64 n.wid, .bool n.single]]) own43 rfl rfl rfl rfl (rThroughG_c b ao2 b2 o2 cap2 n _ (hs2.keep E43 (fun _ h => h)) hk2 hm) (fun v50 w51 r53 => ?_))
  obtain ⟨rfl, u52⟩ := r53
  have zu52 := u52.size
  have E54 := E43.next u52 (fun _ _ h => h.elim)
  refine t_move rfl rfl rfl (t_extract (vs := [.agg #[.int .i64 ((thrS b n).inn.lo), .int .i64 ((thrS b n).inn.hi)], .agg #[.int .i64 ((thrS b n).out.lo), .int .i64 ((thrS b n).out.hi)], .bool ((thrS b n).there), .int .i64 (thrE b n)]) rfl rfl rfl rfl (t_extract (vs := [.agg #[.int .i64 ((thrS b n).inn.lo), .int .i64 ((thrS b n).inn.hi)], .agg #[.int .i64 ((thrS b n).out.lo), .int .i64 ((thrS b n).out.hi)], .bool ((thrS b n).there), .int .i64 (thrE b n)]) rfl rfl rfl rfl (t_extract (vs := [.agg #[.int .i64 ((thrS b n).inn.lo), .int .i64 ((thrS b n).inn.hi)], .agg #[.int .i64 ((thrS b n).out.lo), .int .i64 ((thrS b n).out.hi)], .bool ((thrS b n).there), .int .i64 (thrE b n)]) rfl rfl rfl rfl (t_extract (vs := [.agg #[.int .i64 ((thrS b n).inn.lo), .int .i64 ((thrS b n).inn.hi)], .agg #[.int .i64 ((thrS b n).out.lo), .int .i64 ((thrS b n).out.hi)], .bool ((thrS b n).there), .int .i64 (thrE b n)]) rfl rfl rfl rfl (t_alloc (cs := [.int .i64 0, .int .i64 0]) Try.zeroValue45 rfl rfl rfl (fun bk55 w56 ebk55 sbk55 B57 u58 => ?_))))))
  have zu58 := u58.size
  have E59 := E54.next u58 (fun _ _ h => h.elim)
  refine t_alloc (cs := [.int .i64 0, .int .i64 0]) Try.zeroValue45 rfl rfl rfl (fun bk60 w61 ebk60 sbk60 B62 u63 => ?_)
  have zu63 := u63.size
  have E64 := E59.next u63 (fun _ _ h => h.elim)
  have B65 := (B57.keep u63 (fun h => h))
  refine t_store (vs := [.int .i64 ((thrS b n).inn.lo), .int .i64 ((thrS b n).inn.hi)]) Try.sizeOf45 rfl rfl rfl B65 rfl rfl (Nat.le_of_ble_eq_true rfl) (by simp [Value.oneCell']) (fun w66 sw66 B68 u67 => ?_)
  have zu67 := u67.size
  have E69 := E64.next u67 (fun i hi (h : i = bk55) => show False by first | omega | assumption)
  have B68 : Blk w66 bk55 45 [.int .i64 ((thrS b n).inn.lo), .int .i64 ((thrS b n).inn.hi)] := B68
  have B70 := (B62.keep u67 (show ¬ (bk60 = bk55) by first | omega | assumption))
  refine t_store (vs := [.int .i64 ((thrS b n).out.lo), .int .i64 ((thrS b n).out.hi)]) Try.sizeOf45 rfl rfl rfl B70 rfl rfl (Nat.le_of_ble_eq_true rfl) (by simp [Value.oneCell']) (fun w71 sw71 B73 u72 => ?_)
  have zu72 := u72.size
  have E74 := E69.next u72 (fun i hi (h : i = bk60) => show False by first | omega | assumption)
  have B73 : Blk w71 bk60 45 [.int .i64 ((thrS b n).out.lo), .int .i64 ((thrS b n).out.hi)] := B73
  refine t_assign rfl rfl rfl (t_assign rfl rfl rfl (t_nil' (hK47 _ _ (c_seq fun K75 hK75 => (c_seq fun K76 hK76 => (c_region (t_move rfl rfl rfl (t_cmp rfl rfl rfl rfl rfl (t_move rfl rfl rfl (t_splitp 37 rfl (fun g37 => ?_) (fun g37 => ?_)))))))))))
  ·
   refine t_skip rfl rfl rfl (t_skip rfl rfl rfl (t_pick_t rfl rfl rfl rfl (t_move rfl rfl rfl (t_skip rfl rfl rfl (t_skip rfl rfl rfl (t_pick_t rfl rfl rfl rfl (t_nil' (hK76 _ _ (c_cond_t rfl (c_seq fun K77 hK77 => (c_region (t_move rfl rfl rfl (t_assign rfl rfl rfl (t_assign rfl rfl rfl (t_assign rfl rfl rfl (t_nil' (hK77 _ _ (c_ret (f_ret3 (v1 := .bool false) (v2 := .bool false) (v3 := .int .i64 (thrE b n)) Try.results44 rfl rfl rfl ?_)))))))))))))))))))
   exact ⟨by simp_all [mayB, mustB] <;> first | omega | (intro _; omega), E74⟩
  ·
   refine t_move rfl rfl rfl (t_not rfl rfl rfl (t_pick_f rfl rfl rfl rfl (t_move rfl rfl rfl (t_split 41 rfl (fun g41 => ?_) (fun g41 => ?_)))))
   ·
    refine t_skip rfl rfl rfl (t_skip rfl rfl rfl (t_pick_t rfl rfl rfl rfl (t_nil' (hK76 _ _ (c_cond_t rfl (c_seq fun K78 hK78 => (c_region (t_move rfl rfl rfl (t_assign rfl rfl rfl (t_assign rfl rfl rfl (t_assign rfl rfl rfl (t_nil' (hK78 _ _ (c_ret (f_ret3 (v1 := .bool false) (v2 := .bool false) (v3 := .int .i64 (thrE b n)) Try.results44 rfl rfl rfl ?_)))))))))))))))
    exact ⟨by simp_all [mayB, mustB] <;> first | omega | (intro _; omega), E74⟩
   ·
    refine t_move rfl rfl rfl (t_not rfl rfl rfl (t_pick_f rfl rfl rfl rfl (t_nil' (hK76 _ _ (c_cond rfl (fun g44 => ?_) (fun g44 => ?_))))))
    ·
     refine c_seq fun K79 hK79 => (c_region (t_move rfl rfl rfl (t_assign rfl rfl rfl (t_assign rfl rfl rfl (t_assign rfl rfl rfl (t_nil' (hK79 _ _ (c_ret (f_ret3 (v1 := .bool false) (v2 := .bool false) (v3 := .int .i64 (thrE b n)) Try.results44 rfl rfl rfl ?_)))))))))
     exact ⟨by simp_all [mayB, mustB] <;> first | omega | (intro _; omega), E74⟩
    ·
     refine c_skip (hK75 _ _ (c_seq fun K80 hK80 => ?_))
     have B81 := ((((((B37.keep u41 (show ¬ (bk24 = bk29) by first | omega | assumption)).keep u52 (fun h => h)).keep u58 (fun h => h)).keep u63 (fun h => h)).keep u67 (show ¬ (bk24 = bk55) by first | omega | assumption)).keep u72 (show ¬ (bk24 = bk60) by first | omega | assumption))
     have B82 := (((((B42.keep u52 (fun h => h)).keep u58 (fun h => h)).keep u63 (fun h => h)).keep u67 (show ¬ (bk29 = bk55) by first | omega | assumption)).keep u72 (show ¬ (bk29 = bk60) by first | omega | assumption))
     have B83 := (B68.keep u72 (show ¬ (bk55 = bk60) by first | omega | assumption))
     by_cases g51 : (thrS a n).inn.lo ≤ (thrS b n).out.hi
     ·
      by_cases g63 : (thrS a n).inn.hi ≤ (thrS b n).out.lo
      ·
       refine WC.weak [(9, .pointer (some ⟨bk24, 0, none⟩)), (10, .pointer (some ⟨bk29, 0, none⟩)), (13, .pointer (some ⟨bk55, 0, none⟩)), (14, .pointer (some ⟨bk60, 0, none⟩))] ⟨rfl, rfl, rfl, rfl, trivial⟩ (c_drawn follows 27 [some (46, some (.pointer (some ⟨bk24, 0, none⟩))), some (47, some (.int .i64 ((thrS a n).inn.lo))), some (48, some (.pointer (some ⟨bk60, 1, none⟩))), some (49, some (.int .i64 ((thrS b n).out.hi))), some (50, some (.bool (decide ((thrS a n).inn.lo ≤ (thrS b n).out.hi)))), some (51, some (.bool true)), some (52, some (.pointer (some ⟨bk55, 0, none⟩))), some (53, some (.int .i64 ((thrS b n).inn.lo))), some (54, some (.pointer (some ⟨bk29, 1, none⟩))), some (55, some (.int .i64 ((thrS a n).out.hi))), some (56, some (.bool (decide ((thrS b n).inn.lo ≤ (thrS a n).out.hi)))), some (57, some (.bool (decide ((thrS b n).inn.lo ≤ (thrS a n).out.hi)))), some (58, some (.pointer (some ⟨bk24, 1, none⟩))), some (59, some (.int .i64 ((thrS a n).inn.hi))), some (60, some (.pointer (some ⟨bk60, 0, none⟩))), some (61, some (.int .i64 ((thrS b n).out.lo))), some (62, some (.bool (decide ((thrS a n).inn.hi ≤ (thrS b n).out.lo)))), some (63, some (.bool true)), some (64, some (.pointer (some ⟨bk55, 1, none⟩))), some (65, some (.int .i64 ((thrS b n).inn.hi))), some (66, some (.pointer (some ⟨bk29, 0, none⟩))), some (67, some (.int .i64 ((thrS a n).out.lo))), some (68, some (.bool (decide ((thrS b n).inn.hi ≤ (thrS a n).out.lo)))), some (69, some (.bool (decide ((thrS b n).inn.hi ≤ (thrS a n).out.lo)))), some (6, some (.bool (decide ((thrS b n).inn.lo ≤ (thrS a n).out.hi)))), some (7, some (.bool (decide ((thrS b n).inn.hi ≤ (thrS a n).out.lo)))), some (8, some (.int .i64 0))] [[],[0],[],[2],[1,3],[4],[5],[6,5],[5],[8,5],[7,9,5],[5,10],[],[12],[],[14],[13,15],[16,5],[17],[18,17],[17],[20,17],[19,21,17],[17,22],[11,17,0,1,2,3,4,5,6,7,8,9,10,11],[23,24,0,1,2,3,4,5,6,7,8,9,10,11,12,13,14,15,16,17,18,19,20,21,22,23,24],[25,0,1,2,3,4,5,6,7,8,9,10,11,12,13,14,15,16,17,18,19,20,21,22,23,24,25]] (fun _ _ w => Upd (fun _ => False) w71 w) rfl rfl rfl (by kernel_rfl) (by kernel_rfl) (Upd.drew _).to ⟨?_, ?_, ?_, ?_, ?_, ?_, ?_, ?_, ?_, ?_, ?_, ?_, ?_, ?_, ?_, ?_, ?_, ?_, ?_, ?_, ?_, ?_, ?_, ?_, ?_, ?_, ?_, trivial⟩ ?_)
       · exact pzf Try.underlying45 rfl Try.sizeOf3 (0) rfl rfl rfl rfl rfl fun _ _ _ h => h
       ·
        intro D ρ w84 hcD hnD hdD hW
        have zhW := hW.size
        refine ⟨_, kf_fr [46], fun Lr => ?_⟩
        have B87 := (B81.keep hW (fun h => h))
        refine t_load Try.isAgg3 rfl rfl rfl (B87.get rfl) ?_
        exact dz rfl hW
       · exact pzf Try.underlying45 rfl Try.sizeOf3 (1) rfl rfl rfl rfl rfl fun _ _ _ h => h
       ·
        intro D ρ w88 hcD hnD hdD hW
        have zhW := hW.size
        refine ⟨_, kf_fr [48], fun Lr => ?_⟩
        have B91 := (B73.keep hW (fun h => h))
        refine t_load Try.isAgg3 rfl rfl rfl (B91.get rfl) ?_
        exact dz rfl hW
       · exact pz rfl rfl rfl rfl fun _ _ _ h => h
       · exact fun D ρ w _ _ _ hW => ⟨[(50, .bool (decide ((thrS a n).inn.lo ≤ (thrS b n).out.hi)))], ⟨fi 4 rfl rfl rfl, trivial⟩, fun Lr => t_move rfl rfl rfl (t_samehd (v := .bool true) (by first | exact congrArg Value.bool (decide_eq_true g51) | exact congrArg Value.bool g51 | simp [g51]) (dz rfl hW))⟩
       · exact pzf Try.underlying45 rfl Try.sizeOf3 (0) rfl rfl rfl rfl rfl fun _ _ _ h => h
       ·
        intro D ρ w92 hcD hnD hdD hW
        have zhW := hW.size
        refine ⟨_, kf_fr [51, 52], fun Lr => ?_⟩
        have B95 := (B83.keep hW (fun h => h))
        refine t_load Try.isAgg3 rfl rfl rfl (B95.get rfl) ?_
        exact dz rfl hW
       · exact pzf Try.underlying45 rfl Try.sizeOf3 (1) rfl rfl rfl rfl rfl fun _ _ _ h => h
       ·
        intro D ρ w96 hcD hnD hdD hW
        have zhW := hW.size
        refine ⟨_, kf_fr [51, 54], fun Lr => ?_⟩
        have B99 := (B82.keep hW (fun h => h))
        refine t_load Try.isAgg3 rfl rfl rfl (B99.get rfl) ?_
        exact dz rfl hW
       · exact pz rfl rfl rfl rfl fun _ _ _ h => h
       · exact pz rfl rfl rfl rfl fun _ _ _ h => h
       · exact pzf Try.underlying45 rfl Try.sizeOf3 (1) rfl rfl rfl rfl rfl fun _ _ _ h => h
       ·
        intro D ρ w100 hcD hnD hdD hW
        have zhW := hW.size
        refine ⟨_, kf_fr [58], fun Lr => ?_⟩
        have B103 := (B81.keep hW (fun h => h))
        refine t_load Try.isAgg3 rfl rfl rfl (B103.get rfl) ?_
        exact dz rfl hW
       · exact pzf Try.underlying45 rfl Try.sizeOf3 (0) rfl rfl rfl rfl rfl fun _ _ _ h => h
       ·
        intro D ρ w104 hcD hnD hdD hW
        have zhW := hW.size
        refine ⟨_, kf_fr [60], fun Lr => ?_⟩
        have B107 := (B73.keep hW (fun h => h))
        refine t_load Try.isAgg3 rfl rfl rfl (B107.get rfl) ?_
        exact dz rfl hW
       · exact pz rfl rfl rfl rfl fun _ _ _ h => h
       · exact fun D ρ w _ _ _ hW => ⟨[(62, .bool (decide ((thrS a n).inn.hi ≤ (thrS b n).out.lo)))], ⟨fi 16 rfl rfl rfl, trivial⟩, fun Lr => t_move rfl rfl rfl (t_samehd (v := .bool true) (by first | exact congrArg Value.bool (decide_eq_true g63) | exact congrArg Value.bool g63 | simp [g63]) (dz rfl hW))⟩
       · exact pzf Try.underlying45 rfl Try.sizeOf3 (1) rfl rfl rfl rfl rfl fun _ _ _ h => h
       ·
        intro D ρ w108 hcD hnD hdD hW
        have zhW := hW.size
        refine ⟨_, kf_fr [63, 64], fun Lr => ?_⟩
        have B111 := (B83.keep hW (fun h => h))
        refine t_load Try.isAgg3 rfl rfl rfl (B111.get rfl) ?_
        exact dz rfl hW
       · exact pzf Try.underlying45 rfl Try.sizeOf3 (0) rfl rfl rfl rfl rfl fun _ _ _ h => h
       ·
        intro D ρ w112 hcD hnD hdD hW
        have zhW := hW.size
        refine ⟨_, kf_fr [63, 66], fun Lr => ?_⟩
        have B115 := (B82.keep hW (fun h => h))
        refine t_load Try.isAgg3 rfl rfl rfl (B115.get rfl) ?_
        exact dz rfl hW
       · exact pz rfl rfl rfl rfl fun _ _ _ h => h
       · exact pz rfl rfl rfl rfl fun _ _ _ h => h
       · exact pz rfl rfl rfl rfl fun _ _ _ h => h
       · exact pz rfl rfl rfl rfl fun _ _ _ h => h
       · exact pz rfl rfl rfl rfl fun _ _ _ h => h
       intro ρ w116 hW
       have u117 : Upd (fun _ => False) w71 w116 := hW
       have zu117 := u117.size
       have E118 := E74.next u117 (fun _ _ h => h.elim)
       refine QK.weak [(6, .bool (decide ((thrS b n).inn.lo ≤ (thrS a n).out.hi))), (7, .bool (decide ((thrS b n).inn.hi ≤ (thrS a n).out.lo))), (8, .int .i64 0)] ⟨rfl, rfl, rfl, trivial⟩ (hK80 _ _ (c_ret (f_ret3 (v1 := .bool (decide ((thrS b n).inn.lo ≤ (thrS a n).out.hi))) (v2 := .bool (decide ((thrS b n).inn.hi ≤ (thrS a n).out.lo))) (v3 := .int .i64 0) Try.results44 rfl rfl rfl ?_)))
       exact ⟨by simp_all [mayB, mustB] <;> first | omega | (intro _; omega), E118⟩
      ·
       refine WC.weak [(9, .pointer (some ⟨bk24, 0, none⟩)), (10, .pointer (some ⟨bk29, 0, none⟩)), (13, .pointer (some ⟨bk55, 0, none⟩)), (14, .pointer (some ⟨bk60, 0, none⟩))] ⟨rfl, rfl, rfl, rfl, trivial⟩ (c_drawn follows 27 [some (46, some (.pointer (some ⟨bk24, 0, none⟩))), some (47, some (.int .i64 ((thrS a n).inn.lo))), some (48, some (.pointer (some ⟨bk60, 1, none⟩))), some (49, some (.int .i64 ((thrS b n).out.hi))), some (50, some (.bool (decide ((thrS a n).inn.lo ≤ (thrS b n).out.hi)))), some (51, some (.bool true)), some (52, some (.pointer (some ⟨bk55, 0, none⟩))), some (53, some (.int .i64 ((thrS b n).inn.lo))), some (54, some (.pointer (some ⟨bk29, 1, none⟩))), some (55, some (.int .i64 ((thrS a n).out.hi))), some (56, some (.bool (decide ((thrS b n).inn.lo ≤ (thrS a n).out.hi)))), some (57, some (.bool (decide ((thrS b n).inn.lo ≤ (thrS a n).out.hi)))), some (58, some (.pointer (some ⟨bk24, 1, none⟩))), some (59, some (.int .i64 ((thrS a n).inn.hi))), some (60, some (.pointer (some ⟨bk60, 0, none⟩))), some (61, some (.int .i64 ((thrS b n).out.lo))), some (62, some (.bool (decide ((thrS a n).inn.hi ≤ (thrS b n).out.lo)))), some (63, some (.bool false)), some (64, some (undef)), some (65, some (undef)), some (66, some (undef)), some (67, some (undef)), some (68, some (undef)), some (69, some (.bool false)), some (6, some (.bool (decide ((thrS b n).inn.lo ≤ (thrS a n).out.hi)))), some (7, some (.bool false)), some (8, some (.int .i64 0))] [[],[0],[],[2],[1,3],[4],[5],[6,5],[5],[8,5],[7,9,5],[5,10],[],[12],[],[14],[13,15],[16,5],[17],[18,17],[17],[20,17],[19,21,17],[17,22],[11,17,0,1,2,3,4,5,6,7,8,9,10,11],[23,24,0,1,2,3,4,5,6,7,8,9,10,11,12,13,14,15,16,17,18,19,20,21,22,23,24],[25,0,1,2,3,4,5,6,7,8,9,10,11,12,13,14,15,16,17,18,19,20,21,22,23,24,25]] (fun _ _ w => Upd (fun _ => False) w71 w) rfl rfl rfl (by kernel_rfl) (by kernel_rfl) (Upd.drew _).to ⟨?_, ?_, ?_, ?_, ?_, ?_, ?_, ?_, ?_, ?_, ?_, ?_, ?_, ?_, ?_, ?_, ?_, ?_, ?_, ?_, ?_, ?_, ?_, ?_, ?_, ?_, ?_, trivial⟩ ?_)
       · exact pzf Try.underlying45 rfl Try.sizeOf3 (0) rfl rfl rfl rfl rfl fun _ _ _ h => h
       ·
        intro D ρ w119 hcD hnD hdD hW
        have zhW := hW.size
        refine ⟨_, kf_fr [46], fun Lr => ?_⟩
        have B122 := (B81.keep hW (fun h => h))
        refine t_load Try.isAgg3 rfl rfl rfl (B122.get rfl) ?_
        exact dz rfl hW
       · exact pzf Try.underlying45 rfl Try.sizeOf3 (1) rfl rfl rfl rfl rfl fun _ _ _ h => h
       ·
        intro D ρ w123 hcD hnD hdD hW
        have zhW := hW.size
        refine ⟨_, kf_fr [48], fun Lr => ?_⟩
        have B126 := (B73.keep hW (fun h => h))
        refine t_load Try.isAgg3 rfl rfl rfl (B126.get rfl) ?_
        exact dz rfl hW
       · exact pz rfl rfl rfl rfl fun _ _ _ h => h
       · exact fun D ρ w _ _ _ hW => ⟨[(50, .bool (decide ((thrS a n).inn.lo ≤ (thrS b n).out.hi)))], ⟨fi 4 rfl rfl rfl, trivial⟩, fun Lr => t_move rfl rfl rfl (t_samehd (v := .bool true) (by first | exact congrArg Value.bool (decide_eq_true g51) | exact congrArg Value.bool g51 | simp [g51]) (dz rfl hW))⟩
       · exact pzf Try.underlying45 rfl Try.sizeOf3 (0) rfl rfl rfl rfl rfl fun _ _ _ h => h
       ·
        intro D ρ w127 hcD hnD hdD hW
        have zhW := hW.size
        refine ⟨_, kf_fr [51, 52], fun Lr => ?_⟩
        have B130 := (B83.keep hW (fun h => h))
        refine t_load Try.isAgg3 rfl rfl rfl (B130.get rfl) ?_
        exact dz rfl hW
       · exact pzf Try.underlying45 rfl Try.sizeOf3 (1) rfl rfl rfl rfl rfl fun _ _ _ h => h
       ·
        intro D ρ w131 hcD hnD hdD hW
        have zhW := hW.size
        refine ⟨_, kf_fr [51, 54], fun Lr => ?_⟩
        have B134 := (B82.keep hW (fun h => h))
        refine t_load Try.isAgg3 rfl rfl rfl (B134.get rfl) ?_
        exact dz rfl hW
       · exact pz rfl rfl rfl rfl fun _ _ _ h => h
       · exact pz rfl rfl rfl rfl fun _ _ _ h => h
       · exact pzf Try.underlying45 rfl Try.sizeOf3 (1) rfl rfl rfl rfl rfl fun _ _ _ h => h
       ·
        intro D ρ w135 hcD hnD hdD hW
        have zhW := hW.size
        refine ⟨_, kf_fr [58], fun Lr => ?_⟩
        have B138 := (B81.keep hW (fun h => h))
        refine t_load Try.isAgg3 rfl rfl rfl (B138.get rfl) ?_
        exact dz rfl hW
       · exact pzf Try.underlying45 rfl Try.sizeOf3 (0) rfl rfl rfl rfl rfl fun _ _ _ h => h
       ·
        intro D ρ w139 hcD hnD hdD hW
        have zhW := hW.size
        refine ⟨_, kf_fr [60], fun Lr => ?_⟩
        have B142 := (B73.keep hW (fun h => h))
        refine t_load Try.isAgg3 rfl rfl rfl (B142.get rfl) ?_
        exact dz rfl hW
       · exact pz rfl rfl rfl rfl fun _ _ _ h => h
       · exact fun D ρ w _ _ _ hW => ⟨[(62, .bool (decide ((thrS a n).inn.hi ≤ (thrS b n).out.lo)))], ⟨fi 16 rfl rfl rfl, trivial⟩, fun Lr => t_move rfl rfl rfl (t_samehd (v := .bool false) (by first | exact congrArg Value.bool (decide_eq_false g63) | exact congrArg Value.bool g63 | simp [g63]) (dz rfl hW))⟩
       · exact pz rfl rfl rfl rfl fun _ _ _ h => h
       · exact pz rfl rfl rfl rfl fun _ _ _ h => h
       · exact pz rfl rfl rfl rfl fun _ _ _ h => h
       · exact pz rfl rfl rfl rfl fun _ _ _ h => h
       · exact pz rfl rfl rfl rfl fun _ _ _ h => h
       · exact pz rfl rfl rfl rfl fun _ _ _ h => h
       · exact pz rfl rfl rfl rfl fun _ _ _ h => h
       · exact pz rfl rfl rfl rfl fun _ _ _ h => h
       · exact pz rfl rfl rfl rfl fun _ _ _ h => h
       intro ρ w143 hW
       have u144 : Upd (fun _ => False) w71 w143 := hW
       have zu144 := u144.size
       have E145 := E74.next u144 (fun _ _ h => h.elim)
       refine QK.weak [(6, .bool (decide ((thrS b n).inn.lo ≤ (thrS a n).out.hi))), (7, .bool false), (8, .int .i64 0)] ⟨rfl, rfl, rfl, trivial⟩ (hK80 _ _ (c_ret (f_ret3 (v1 := .bool (decide ((thrS b n).inn.lo ≤ (thrS a n).out.hi))) (v2 := .bool false) (v3 := .int .i64 0) Try.results44 rfl rfl rfl ?_)))
       exact ⟨by simp_all [mayB, mustB] <;> first | omega | (intro _; omega), E145⟩
     ·
      by_cases g63 : (thrS a n).inn.hi ≤ (thrS b n).out.lo
      ·
       refine WC.weak [(9, .pointer (some ⟨bk24, 0, none⟩)), (10, .pointer (some ⟨bk29, 0, none⟩)), (13, .pointer (some ⟨bk55, 0, none⟩)), (14, .pointer (some ⟨bk60, 0, none⟩))] ⟨rfl, rfl, rfl, rfl, trivial⟩ (c_drawn follows 27 [some (46, some (.pointer (some ⟨bk24, 0, none⟩))), some (47, some (.int .i64 ((thrS a n).inn.lo))), some (48, some (.pointer (some ⟨bk60, 1, none⟩))), some (49, some (.int .i64 ((thrS b n).out.hi))), some (50, some (.bool (decide ((thrS a n).inn.lo ≤ (thrS b n).out.hi)))), some (51, some (.bool false)), some (52, some (undef)), some (53, some (undef)), some (54, some (undef)), some (55, some (undef)), some (56, some (undef)), some (57, some (.bool false)), some (58, some (.pointer (some ⟨bk24, 1, none⟩))), some (59, some (.int .i64 ((thrS a n).inn.hi))), some (60, some (.pointer (some ⟨bk60, 0, none⟩))), some (61, some (.int .i64 ((thrS b n).out.lo))), some (62, some (.bool (decide ((thrS a n).inn.hi ≤ (thrS b n).out.lo)))), some (63, some (.bool true)), some (64, some (.pointer (some ⟨bk55, 1, none⟩))), some (65, some (.int .i64 ((thrS b n).inn.hi))), some (66, some (.pointer (some ⟨bk29, 0, none⟩))), some (67, some (.int .i64 ((thrS a n).out.lo))), some (68, some (.bool (decide ((thrS b n).inn.hi ≤ (thrS a n).out.lo)))), some (69, some (.bool (decide ((thrS b n).inn.hi ≤ (thrS a n).out.lo)))), some (6, some (.bool false)), some (7, some (.bool (decide ((thrS b n).inn.hi ≤ (thrS a n).out.lo)))), some (8, some (.int .i64 0))] [[],[0],[],[2],[1,3],[4],[5],[6,5],[5],[8,5],[7,9,5],[5,10],[],[12],[],[14],[13,15],[16,5],[17],[18,17],[17],[20,17],[19,21,17],[17,22],[11,17,0,1,2,3,4,5,6,7,8,9,10,11],[23,24,0,1,2,3,4,5,6,7,8,9,10,11,12,13,14,15,16,17,18,19,20,21,22,23,24],[25,0,1,2,3,4,5,6,7,8,9,10,11,12,13,14,15,16,17,18,19,20,21,22,23,24,25]] (fun _ _ w => Upd (fun _ => False) w71 w) rfl rfl rfl (by kernel_rfl) (by kernel_rfl) (Upd.drew _).to ⟨?_, ?_, ?_, ?_, ?_, ?_, ?_, ?_, ?_, ?_, ?_, ?_, ?_, ?_, ?_, ?_, ?_, ?_, ?_, ?_, ?_, ?_, ?_, ?_, ?_, ?_, ?_, trivial⟩ ?_)
       · exact pzf Try.underlying45 rfl Try.sizeOf3 (0) rfl rfl rfl rfl rfl fun _ _ _ h => h
       ·
        intro D ρ w146 hcD hnD hdD hW
        have zhW := hW.size
        refine ⟨_, kf_fr [46], fun Lr => ?_⟩
        have B149 := (B81.keep hW (fun h => h))
        refine t_load Try.isAgg3 rfl rfl rfl (B149.get rfl) ?_
        exact dz rfl hW
       · exact pzf Try.underlying45 rfl Try.sizeOf3 (1) rfl rfl rfl rfl rfl fun _ _ _ h => h
       ·
        intro D ρ w150 hcD hnD hdD hW
        have zhW := hW.size
        refine ⟨_, kf_fr [48], fun Lr => ?_⟩
        have B153 := (B73.keep hW (fun h => h))
        refine t_load Try.isAgg3 rfl rfl rfl (B153.get rfl) ?_
        exact dz rfl hW
       · exact pz rfl rfl rfl rfl fun _ _ _ h => h
       · exact fun D ρ w _ _ _ hW => ⟨[(50, .bool (decide ((thrS a n).inn.lo ≤ (thrS b n).out.hi)))], ⟨fi 4 rfl rfl rfl, trivial⟩, fun Lr => t_move rfl rfl rfl (t_samehd (v := .bool false) (by first | exact congrArg Value.bool (decide_eq_false g51) | exact congrArg Value.bool g51 | simp [g51]) (dz rfl hW))⟩
       · exact pz rfl rfl rfl rfl fun _ _ _ h => h
       · exact pz rfl rfl rfl rfl fun _ _ _ h => h
       · exact pz rfl rfl rfl rfl fun _ _ _ h => h
       · exact pz rfl rfl rfl rfl fun _ _ _ h => h
       · exact pz rfl rfl rfl rfl fun _ _ _ h => h
       · exact pz rfl rfl rfl rfl fun _ _ _ h => h
       · exact pzf Try.underlying45 rfl Try.sizeOf3 (1) rfl rfl rfl rfl rfl fun _ _ _ h => h
       ·
        intro D ρ w154 hcD hnD hdD hW
        have zhW := hW.size
        refine ⟨_, kf_fr [58], fun Lr => ?_⟩
        have B157 := (B81.keep hW (fun h => h))
        refine t_load Try.isAgg3 rfl rfl rfl (B157.get rfl) ?_
        exact dz rfl hW
       · exact pzf Try.underlying45 rfl Try.sizeOf3 (0) rfl rfl rfl rfl rfl fun _ _ _ h => h
       ·
        intro D ρ w158 hcD hnD hdD hW
        have zhW := hW.size
        refine ⟨_, kf_fr [60], fun Lr => ?_⟩
        have B161 := (B73.keep hW (fun h => h))
        refine t_load Try.isAgg3 rfl rfl rfl (B161.get rfl) ?_
        exact dz rfl hW
       · exact pz rfl rfl rfl rfl fun _ _ _ h => h
       · exact fun D ρ w _ _ _ hW => ⟨[(62, .bool (decide ((thrS a n).inn.hi ≤ (thrS b n).out.lo)))], ⟨fi 16 rfl rfl rfl, trivial⟩, fun Lr => t_move rfl rfl rfl (t_samehd (v := .bool true) (by first | exact congrArg Value.bool (decide_eq_true g63) | exact congrArg Value.bool g63 | simp [g63]) (dz rfl hW))⟩
       · exact pzf Try.underlying45 rfl Try.sizeOf3 (1) rfl rfl rfl rfl rfl fun _ _ _ h => h
       ·
        intro D ρ w162 hcD hnD hdD hW
        have zhW := hW.size
        refine ⟨_, kf_fr [63, 64], fun Lr => ?_⟩
        have B165 := (B83.keep hW (fun h => h))
        refine t_load Try.isAgg3 rfl rfl rfl (B165.get rfl) ?_
        exact dz rfl hW
       · exact pzf Try.underlying45 rfl Try.sizeOf3 (0) rfl rfl rfl rfl rfl fun _ _ _ h => h
       ·
        intro D ρ w166 hcD hnD hdD hW
        have zhW := hW.size
        refine ⟨_, kf_fr [63, 66], fun Lr => ?_⟩
        have B169 := (B82.keep hW (fun h => h))
        refine t_load Try.isAgg3 rfl rfl rfl (B169.get rfl) ?_
        exact dz rfl hW
       · exact pz rfl rfl rfl rfl fun _ _ _ h => h
       · exact pz rfl rfl rfl rfl fun _ _ _ h => h
       · exact pz rfl rfl rfl rfl fun _ _ _ h => h
       · exact pz rfl rfl rfl rfl fun _ _ _ h => h
       · exact pz rfl rfl rfl rfl fun _ _ _ h => h
       intro ρ w170 hW
       have u171 : Upd (fun _ => False) w71 w170 := hW
       have zu171 := u171.size
       have E172 := E74.next u171 (fun _ _ h => h.elim)
       refine QK.weak [(6, .bool false), (7, .bool (decide ((thrS b n).inn.hi ≤ (thrS a n).out.lo))), (8, .int .i64 0)] ⟨rfl, rfl, rfl, trivial⟩ (hK80 _ _ (c_ret (f_ret3 (v1 := .bool false) (v2 := .bool (decide ((thrS b n).inn.hi ≤ (thrS a n).out.lo))) (v3 := .int .i64 0) Try.results44 rfl rfl rfl ?_)))
       exact ⟨by simp_all [mayB, mustB] <;> first | omega | (intro _; omega), E172⟩
      ·
       refine WC.weak [(9, .pointer (some ⟨bk24, 0, none⟩)), (10, .pointer (some ⟨bk29, 0, none⟩)), (13, .pointer (some ⟨bk55, 0, none⟩)), (14, .pointer (some ⟨bk60, 0, none⟩))] ⟨rfl, rfl, rfl, rfl, trivial⟩ (c_drawn follows 27 [some (46, some (.pointer (some ⟨bk24, 0, none⟩))), some (47, some (.int .i64 ((thrS a n).inn.lo))), some (48, some (.pointer (some ⟨bk60, 1, none⟩))), some (49, some (.int .i64 ((thrS b n).out.hi))), some (50, some (.bool (decide ((thrS a n).inn.lo ≤ (thrS b n).out.hi)))), some (51, some (.bool false)), some (52, some (undef)), some (53, some (undef)), some (54, some (undef)), some (55, some (undef)), some (56, some (undef)), some (57, some (.bool false)), some (58, some (.pointer (some ⟨bk24, 1, none⟩))), some (59, some (.int .i64 ((thrS a n).inn.hi))), some (60, some (.pointer (some ⟨bk60, 0, none⟩))), some (61, some (.int .i64 ((thrS b n).out.lo))), some (62, some (.bool (decide ((thrS a n).inn.hi ≤ (thrS b n).out.lo)))), some (63, some (.bool false)), some (64, some (undef)), some (65, some (undef)), some (66, some (undef)), some (67, some (undef)), some (68, some (undef)), some (69, some (.bool false)), some (6, some (.bool false)), some (7, some (.bool false)), some (8, some (.int .i64 0))] [[],[0],[],[2],[1,3],[4],[5],[6,5],[5],[8,5],[7,9,5],[5,10],[],[12],[],[14],[13,15],[16,5],[17],[18,17],[17],[20,17],[19,21,17],[17,22],[11,17,0,1,2,3,4,5,6,7,8,9,10,11],[23,24,0,1,2,3,4,5,6,7,8,9,10,11,12,13,14,15,16,17,18,19,20,21,22,23,24],[25,0,1,2,3,4,5,6,7,8,9,10,11,12,13,14,15,16,17,18,19,20,21,22,23,24,25]] (fun _ _ w => Upd (fun _ => False) w71 w) rfl rfl rfl (by kernel_rfl) (by kernel_rfl) (Upd.drew _).to ⟨?_, ?_, ?_, ?_, ?_, ?_, ?_, ?_, ?_, ?_, ?_, ?_, ?_, ?_, ?_, ?_, ?_, ?_, ?_, ?_, ?_, ?_, ?_, ?_, ?_, ?_, ?_, trivial⟩ ?_)
       · exact pzf Try.underlying45 rfl Try.sizeOf3 (0) rfl rfl rfl rfl rfl fun _ _ _ h => h
       ·
        intro D ρ w173 hcD hnD hdD hW
        have zhW := hW.size
        refine ⟨_, kf_fr [46], fun Lr => ?_⟩
        have B176 := (B81.keep hW (fun h => h))
        refine t_load Try.isAgg3 rfl rfl rfl (B176.get rfl) ?_
        exact dz rfl hW
       · exact pzf Try.underlying45 rfl Try.sizeOf3 (1) rfl rfl rfl rfl rfl fun _ _ _ h => h
       ·
        intro D ρ w177 hcD hnD hdD hW
        have zhW := hW.size
        refine ⟨_, kf_fr [48], fun Lr => ?_⟩
        have B180 := (B73.keep hW (fun h => h))
        refine t_load Try.isAgg3 rfl rfl rfl (B180.get rfl) ?_
        exact dz rfl hW
       · exact pz rfl rfl rfl rfl fun _ _ _ h => h
       · exact fun D ρ w _ _ _ hW => ⟨[(50, .bool (decide ((thrS a n).inn.lo ≤ (thrS b n).out.hi)))], ⟨fi 4 rfl rfl rfl, trivial⟩, fun Lr => t_move rfl rfl rfl (t_samehd (v := .bool false) (by first | exact congrArg Value.bool (decide_eq_false g51) | exact congrArg Value.bool g51 | simp [g51]) (dz rfl hW))⟩
       · exact pz rfl rfl rfl rfl fun _ _ _ h => h
       · exact pz rfl rfl rfl rfl fun _ _ _ h => h
       · exact pz rfl rfl rfl rfl fun _ _ _ h => h
       · exact pz rfl rfl rfl rfl fun _ _ _ h => h
       · exact pz rfl rfl rfl rfl fun _ _ _ h => h
       · exact pz rfl rfl rfl rfl fun _ _ _ h => h
       · exact pzf Try.underlying45 rfl Try.sizeOf3 (1) rfl rfl rfl rfl rfl fun _ _ _ h => h
       ·
        intro D ρ w181 hcD hnD hdD hW
        have zhW := hW.size
        refine ⟨_, kf_fr [58], fun Lr => ?_⟩
        have B184 := (B81.keep hW (fun h => h))
        refine t_load Try.isAgg3 rfl rfl rfl (B184.get rfl) ?_
        exact dz rfl hW
       · exact pzf Try.underlying45 rfl Try.sizeOf3 (0) rfl rfl rfl rfl rfl fun _ _ _ h => h
       ·
        intro D ρ w185 hcD hnD hdD hW
        have zhW := hW.size
        refine ⟨_, kf_fr [60], fun Lr => ?_⟩
        have B188 := (B73.keep hW (fun h => h))
        refine t_load Try.isAgg3 rfl rfl rfl (B188.get rfl) ?_
        exact dz rfl hW
       · exact pz rfl rfl rfl rfl fun _ _ _ h => h
       · exact fun D ρ w _ _ _ hW => ⟨[(62, .bool (decide ((thrS a n).inn.hi ≤ (thrS b n).out.lo)))], ⟨fi 16 rfl rfl rfl, trivial⟩, fun Lr => t_move rfl rfl rfl (t_samehd (v := .bool false) (by first | exact congrArg Value.bool (decide_eq_false g63) | exact congrArg Value.bool g63 | simp [g63]) (dz rfl hW))⟩
       · exact pz rfl rfl rfl rfl fun _ _ _ h => h
       · exact pz rfl rfl rfl rfl fun _ _ _ h => h
       · exact pz rfl rfl rfl rfl fun _ _ _ h => h
       · exact pz rfl rfl rfl rfl fun _ _ _ h => h
       · exact pz rfl rfl rfl rfl fun _ _ _ h => h
       · exact pz rfl rfl rfl rfl fun _ _ _ h => h
       · exact pz rfl rfl rfl rfl fun _ _ _ h => h
       · exact pz rfl rfl rfl rfl fun _ _ _ h => h
       · exact pz rfl rfl rfl rfl fun _ _ _ h => h
       intro ρ w189 hW
       have u190 : Upd (fun _ => False) w71 w189 := hW
       have zu190 := u190.size
       have E191 := E74.next u190 (fun _ _ h => h.elim)
       refine QK.weak [(6, .bool false), (7, .bool false), (8, .int .i64 0)] ⟨rfl, rfl, rfl, trivial⟩ (hK80 _ _ (c_ret (f_ret3 (v1 := .bool false) (v2 := .bool false) (v3 := .int .i64 0) Try.results44 rfl rfl rfl ?_)))
       exact ⟨by simp_all [mayB, mustB] <;> first | omega | (intro _; omega), E191⟩

theorem rBars_c (a : Voy) (ao1 : Option Addr) (b1 o1 cap1 : Nat) (b : Voy) (ao2 : Option Addr) (b2 o2 cap2 : Nat) (n : Nar) (w0 : World) (hs1 : Sl encRun 6 w0 ao1 b1 o1 a.runs) (hs2 : Sl encRun 6 w0 ao2 b2 o2 b.runs) (hk1 : okGo a) (hk2 : okGo b) (hm : okNar n = true) (he1 : thrE a n = 0) (he2 : thrE b n = 0) :
    CallsV Try.prog 64 [.agg #[.int .i64 a.st.lo, .int .i64 a.st.hi, .slice ao1 ((a.runs).length) cap1, .int .i64 a.len, .int .i64 a.wid], .agg #[.int .i64 b.st.lo, .int .i64 b.st.hi, .slice ao2 ((b.runs).length) cap2, .int .i64 b.len, .int .i64 b.wid], .agg #[.int .i64 n.frm, .int .i64 n.to, .int .i64 n.wid, .bool n.single]] w0 (fun x w' => x = .bool (barsV a b n) ∧ Ext w0 w') := by
 have hw1 := hk1.rng.wid
 have hw2 := hk2.rng.wid
 have E0 := Upd.refl (fun _ => False) w0
 refine f_enter (N := 33) Try.func64 rfl rfl rfl ?_
 change WC _ _ _ _ _ _ [(0, .agg #[.int .i64 a.st.lo, .int .i64 a.st.hi, .slice ao1 ((a.runs).length) cap1, .int .i64 a.len, .int .i64 a.wid]), (1, .agg #[.int .i64 b.st.lo, .int .i64 b.st.hi, .slice ao2 ((b.runs).length) cap2, .int .i64 b.len, .int .i64 b.wid]), (2, .agg #[.int .i64 n.frm, .int .i64 n.to, .int .i64 n.wid, .bool n.single])] _
 refine c_seq fun K1 hK1 => (c_region (t_box (cs := [.int .i64 a.st.lo, .int .i64 a.st.hi, .slice ao1 ((a.runs).length) cap1, .int .i64 a.len, .int .i64 a.wid]) rfl rfl rfl rfl (fun bk2 w3 ebk2 sbk2 B4 u5 => ?_)))
 have zu5 := u5.size
 have E6 := E0.next u5 (fun _ _ h => h.elim)
 refine t_box (cs := [.int .i64 b.st.lo, .int .i64 b.st.hi, .slice ao2 ((b.runs).length) cap2, .int .i64 b.len, .int .i64 b.wid]) rfl rfl rfl rfl (fun bk7 w8 ebk7 sbk7 B9 u10 => ?_)
 have zu10 := u10.size
 have E11 := E6.next u10 (fun _ _ h => h.elim)
 refine t_box (cs := [.int .i64 n.frm, .int .i64 n.to, .int .i64 n.wid, .bool n.single]) rfl rfl rfl rfl (fun bk12 w13 ebk12 sbk12 B14 u15 => ?_)
 have zu15 := u15.size
 have E16 := E11.next u15 (fun _ _ h => h.elim)
 refine t_assign rfl rfl rfl (t_nil' (hK1 _ _ (c_seq fun K17 hK17 => (c_region ?_))))
 have B18 := ((B4.keep u10 (fun h => h)).keep u15 (fun h => h))
 refine t_loadN (vs := [.int .i64 a.st.lo, .int .i64 a.st.hi, .slice ao1 ((a.runs).length) cap1, .int .i64 a.len, .int .i64 a.wid]) Try.isAgg48 Try.sizeOf48 rfl rfl rfl (B18.at.sub 0 5) rfl ?_
 have B19 := (B9.keep u15 (fun h => h))
 refine t_loadN (vs := [.int .i64 b.st.lo, .int .i64 b.st.hi, .slice ao2 ((b.runs).length) cap2, .int .i64 b.len, .int .i64 b.wid]) Try.isAgg48 Try.sizeOf48 rfl rfl rfl (B19.at.sub 0 5) rfl (t_loadN (vs := [.int .i64 n.frm, .int .i64 n.to, .int .i64 n.wid, .bool n.single]) Try.isAgg72 Try.sizeOf72 rfl rfl rfl (B14.at.sub 0 4) rfl (t_call (vs := [.agg #[.int .i64 a.st.lo, .int .i64 a.st.hi, .slice ao1 ((a.runs).length) cap1, .int .i64 a.len, .int .i64 a.wid], .agg #[.int .i64 b.st.lo, .int .i64 b.st.hi, .slice ao2 ((b.runs).length) cap2, .int .i64 b.len, .int .i64 b.wid], .agg #[.int .i64 n.frm, .int .i64 n.to, .int .i64 n.wid, .bool n.single]]) own44 rfl rfl rfl rfl (rMeetG_c a ao1 b1 o1 cap1 b ao2 b2 o2 cap2 n _ (hs1.keep E16 (fun _ h => h)) (hs2.keep E16 (fun _ h => h)) hk1 hk2 hm he1 he2) (fun v20 w21 r23 => ?_)))
 obtain ⟨rfl, u22⟩ := r23
 have zu22 := u22.size
 have E24 := E16.next u22 (fun _ _ h => h.elim)
 refine t_move rfl rfl rfl (t_extract (vs := [.bool (mayB (thrS a n) (thrS b n)), .bool (mustB (thrS a n) (thrS b n)), .int .i64 0]) rfl rfl rfl rfl (t_extract (vs := [.bool (mayB (thrS a n) (thrS b n)), .bool (mustB (thrS a n) (thrS b n)), .int .i64 0]) rfl rfl rfl rfl (t_extract (vs := [.bool (mayB (thrS a n) (thrS b n)), .bool (mustB (thrS a n) (thrS b n)), .int .i64 0]) rfl rfl rfl rfl (t_assign rfl rfl rfl (t_assign rfl rfl rfl (t_assign rfl rfl rfl (t_nil' (hK17 _ _ (c_seq fun K25 hK25 => (c_region (t_move rfl rfl rfl (t_move rfl rfl rfl (t_split 19 rfl (fun g19 => ?_) (fun g19 => ?_))))))))))))))
 ·
  refine t_field Try.underlying72 rfl Try.sizeOf4 (3) rfl rfl rfl rfl ?_
  have B26 := (B14.keep u22 (fun h => h))
  refine t_load Try.isAgg4 rfl rfl rfl (B26.get rfl) (t_move rfl rfl rfl (t_split 22 rfl (fun g22 => ?_) (fun g22 => ?_)))
  ·
   refine t_skip rfl rfl rfl (t_skip rfl rfl rfl (t_skip rfl rfl rfl (t_skip rfl rfl rfl (t_skip rfl rfl rfl (t_skip rfl rfl rfl (t_skip rfl rfl rfl (t_skip rfl rfl rfl (t_pick_t rfl rfl rfl rfl (t_pick_t rfl rfl rfl rfl (t_assign rfl rfl rfl (t_nil' (hK25 _ _ (c_ret (f_ret1 (v := .bool true) Try.results64 rfl ?_))))))))))))))
   exact ⟨congrArg Value.bool (by simp_all [barsV]), E24⟩
  ·
   refine t_field Try.underlying48 rfl Try.sizeOf3 (4) rfl rfl rfl rfl ?_
   have B27 := (B18.keep u22 (fun h => h))
   refine t_load Try.isAgg3 rfl rfl rfl (B27.get rfl) (t_field Try.underlying48 rfl Try.sizeOf3 (4) rfl rfl rfl rfl ?_)
   have B28 := (B19.keep u22 (fun h => h))
   refine t_load Try.isAgg3 rfl rfl rfl (B28.get rfl) (t_ari rfl rfl rfl rfl rfl (by omega) (t_field Try.underlying72 rfl Try.sizeOf3 (2) rfl rfl rfl rfl (t_load Try.isAgg3 rfl rfl rfl (B26.get rfl) (t_cmp rfl rfl rfl rfl rfl (t_pick_f rfl rfl rfl rfl (t_pick_t rfl rfl rfl rfl (t_assign rfl rfl rfl (t_nil' (hK25 _ _ (c_ret (f_ret1 (v := .bool (decide (n.wid < (a.wid + b.wid)))) Try.results64 rfl ?_)))))))))))
   exact ⟨congrArg Value.bool (by simp_all [barsV]), E24⟩
 ·
  refine t_skip rfl rfl rfl (t_skip rfl rfl rfl (t_skip rfl rfl rfl (t_skip rfl rfl rfl (t_skip rfl rfl rfl (t_skip rfl rfl rfl (t_skip rfl rfl rfl (t_skip rfl rfl rfl (t_skip rfl rfl rfl (t_skip rfl rfl rfl (t_skip rfl rfl rfl (t_skip rfl rfl rfl (t_pick_f rfl rfl rfl rfl (t_assign rfl rfl rfl (t_nil' (hK25 _ _ (c_ret (f_ret1 (v := .bool false) Try.results64 rfl ?_)))))))))))))))))
  exact ⟨congrArg Value.bool (by simp_all [barsV]), E24⟩

end Go.Proofs.Ytmicjleiheoieaa
