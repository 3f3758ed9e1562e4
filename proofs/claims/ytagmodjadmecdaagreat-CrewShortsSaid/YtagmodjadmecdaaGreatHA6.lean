/-
  Members and legs. Conditions: none.
-/
import Derived.Test.YtagmodjadmecdaaGreatHA5
namespace Go.Proofs.YtagmodjadmecdaaGreat
open Go Go.RowKit Tryz

structure Ppr where
  r : Int
  u : Int
instance : Inhabited Ppr := ⟨⟨default, default⟩⟩
structure Leg where
  r : Int
  t : Dty
  h : Int
  p : Int
instance : Inhabited Leg := ⟨⟨default, default, default, default⟩⟩
structure Slr where
  f : Int
  u : Int
  ps : List Ppr
  ds : List Dty
instance : Inhabited Slr := ⟨⟨default, default, default, default⟩⟩
def encPpr (x : Ppr) : List Value := [.int .i64 x.r, .int .i64 x.u]
def encLeg (x : Leg) : List Value := [.int .i64 x.r, .int .i64 x.t.bl, .int .i64 x.t.bh, .int .i64 x.t.el, .int .i64 x.t.eh, .int .i64 x.h, .int .i64 x.p]
def okPpr (p : Ppr) : Bool := decide ((0 ≤ p.r ∧ p.r ≤ 19) ∧ (0 ≤ p.u ∧ p.u ≤ 20160))
def okLeg (x : Leg) : Bool := decide ((0 ≤ x.r ∧ x.r ≤ 19) ∧ okDty x.t = true ∧ (1 ≤ x.h ∧ x.h ≤ 3) ∧ (0 ≤ x.p ∧ x.p ≤ x.h))
def okSlr (s : Slr) : Bool := decide (((0 ≤ s.f ∧ s.f ≤ 20160) ∧ (0 ≤ s.u ∧ s.u ≤ 20160)) ∧ s.f ≤ s.u ∧ s.ps.length ≤ 10 ∧ (∀ p ∈ s.ps, okPpr p = true) ∧ chkD s.ds = 0)
def winM (f u : Int) (x : Leg) : Bool := decide (f ≤ x.t.bl ∧ x.t.eh ≤ u)
def canB (r : Rul) (f u : Int) (l : List Sp) (x : Leg) : Bool := winM f u x && decide (brokP r (insS (lngS x.t) l) = 0)
def canT (f u : Int) (l : List Sp) (x : Leg) : List Sp := if winM f u x = true then insS (lngS x.t) l else l
def pltP (ps : List Ppr) (x : Leg) : Bool := ps.any fun p => decide (p.r = x.r ∧ x.t.eh ≤ p.u)
theorem chkD_ok {l : List Dty} (h : chkD l = 0) : l.length ≤ 20 ∧ ∀ d ∈ l, okDty d = true := by
  unfold chkD at h
  by_cases h2 : 20 < l.length
  · rw [if_pos h2] at h; cases h
  · rw [if_neg h2] at h
    by_cases h3 : (l.any fun d => !okDty d) = true
    · rw [if_pos h3] at h; cases h
    · refine ⟨by omega, fun d hd => ?_⟩
      cases hq : okDty d with
      | true => rfl
      | false => exact absurd (List.any_eq_true.2 ⟨d, hd, by simp [hq]⟩) h3
theorem okSlr_ok {s : Slr} (h : okSlr s = true) : ((0 ≤ s.f ∧ s.f ≤ 20160) ∧ (0 ≤ s.u ∧ s.u ≤ 20160)) ∧ s.ps.length ≤ 10 ∧ s.ds.length ≤ 20 ∧ ∀ d ∈ s.ds, okDty d = true := by
  simp only [okSlr, decide_eq_true_eq] at h
  exact ⟨h.1, h.2.2.1, chkD_ok h.2.2.2.2⟩
theorem okLeg_ok {x : Leg} (h : okLeg x = true) : okDty x.t = true ∧ (1 ≤ x.h ∧ x.h ≤ 3) ∧ (0 ≤ x.p ∧ x.p ≤ x.h) := by
  simp only [okLeg, decide_eq_true_eq] at h
  exact h.2
theorem leg_sp {x : Leg} (h : okLeg x = true) : OkSp (lngS x.t) := lng_ok (okLeg_ok h).1
theorem Acc.lower' {α : Type} {enc : α → List Value} {k : Nat} {e : TypeId} {base base' : Nat} {w : World} {ao : Option Addr} {g cap : Nat} {xs : List α} (h : Acc enc k e base w ao g cap xs) (hb : base' ≤ base) (h0 : 0 < base') : ∃ g', Acc enc k e base' w ao g' cap xs ∧ (base' ≤ g' → base ≤ g') := by
  rcases h.at_ with ⟨h1, h2, h3, h4⟩ | ⟨h1, h2, h3⟩
  · exact ⟨0, ⟨by have := h.lt; omega, .inl ⟨h1, h2, h3, h0⟩⟩, fun q => by omega⟩
  · exact ⟨g, ⟨h.lt, .inr ⟨h1, by omega, h3⟩⟩, fun _ => h2⟩
def MayR (r : Rul) (s : Slr) (x : Leg) : Bool := canB r s.f s.u (srtS (s.ds.map lngS)) x
theorem own64 : Own Tryz.prog 64 := ⟨Tryz.f64, func64, by kernel_rfl, by kernel_rfl⟩
theorem own65 : Own Tryz.prog 65 := ⟨Tryz.f65, func65, by kernel_rfl, by kernel_rfl⟩
theorem own66 : Own Tryz.prog 66 := ⟨Tryz.f66, func66, by kernel_rfl, by kernel_rfl⟩
theorem own67 : Own Tryz.prog 67 := ⟨Tryz.f67, func67, by kernel_rfl, by kernel_rfl⟩
theorem own68 : Own Tryz.prog 68 := ⟨Tryz.f68, func68, by kernel_rfl, by kernel_rfl⟩
theorem own93 : Own Tryz.prog 93 := ⟨Tryz.f93, func93, by kernel_rfl, by kernel_rfl⟩
theorem own94 : Own Tryz.prog 94 := ⟨Tryz.f94, func94, by kernel_rfl, by kernel_rfl⟩
theorem own96 : Own Tryz.prog 96 := ⟨Tryz.f96, func96, by kernel_rfl, by kernel_rfl⟩
theorem own113 : Own Tryz.prog 113 := ⟨Tryz.f113, func113, by kernel_rfl, by kernel_rfl⟩

theorem indexP_c {α : Type} [Inhabited α] (enc : α → List Value) (hk : ∀ x, (enc x).length = 2) (p : α → Bool) (fv : FuncId) (caps : List Value) (xs : List α) (ao : Option Addr) (b o cap : Nat) (w0 : World) (ho : Own Tryz.prog fv) (hp : ∀ x ∈ xs, ∀ w, Ext w0 w → CallsV Tryz.prog fv ([.agg (enc x).toArray] ++ caps) w fun v w' => v = .bool (p x) ∧ Ext w w') (hs : Sl enc 2 w0 ao b o xs) (hl : xs.length ≤ 1000000) :
    CallsV Tryz.prog 113 [.slice ao xs.length cap, .func (.func fv) #[] (caps).toArray] w0 (fun v w' => (∃ n : Int, v = .int .i64 n ∧ decide (0 ≤ n) = xs.any p) ∧ Ext w0 w') := by
 refine f_enter (N := 19) func113 rfl rfl rfl (c_seq fun K1 hK1 => (c_region (t_assign rfl rfl rfl (t_nil' (hK1 _ _ (c_seq fun K2 hK2 => (c_seq fun K3 hK3 => (c_region (t_move rfl rfl rfl (t_len underlying77 rfl rfl rfl rfl (t_move rfl rfl rfl (t_nil' (hK3 _ _ (c_block (c_loop (γ := Nat) (fun k => [(0, .slice ao xs.length cap), (1, .func (.func fv) #[] (caps).toArray), (7, .int .i64 (xs.length : Int)), (8, .int .i64 (k : Int))]) (fun k w => Upd (fun _ => False) w0 w ∧ (k ≤ xs.length) ∧ ((xs.take k).any p = false)) (fun k => xs.length - k) 0 ⟨rfl, rfl, rfl, rfl, trivial⟩ ⟨Upd.refl _ _, Nat.zero_le _, (by simp)⟩ ?_)))))))))))))))
 intro k w5 hW K4 hK4
 obtain ⟨u6, I7, I8⟩ := hW
 have zu6 := u6.size
 have E9 := (Upd.refl (fun _ => False) w0).nx u6
 have hle := I7; clear I7
 have hnot := I8; clear I8
 refine c_seq fun K10 hK10 => (c_region (t_cmp rfl rfl rfl rfl rfl (t_nil' (hK10 _ _ (c_seq fun K11 hK11 => (c_condp rfl (fun g9 => ?_) (fun g9 => ?_)))))))
 ·
  refine c_skip (hK11 _ _ (c_seq fun K12 hK12 => (c_block (c_seq fun K13 hK13 => (c_region (t_move rfl rfl rfl (t_assign rfl rfl rfl (t_nil' (hK13 _ _ (c_seq fun K14 hK14 => (c_region (t_move rfl rfl rfl (t_move rfl rfl rfl (t_move rfl rfl rfl ?_))))))))))))))
  have i15 : k < xs.length := (by omega)
  refine t_index (j := k) underlying77 sizeOf136 rfl rfl rfl rfl ((hs.keep E9 (fun _ h => h)).addr (by omega)) rfl i15 (t_loadN (vs := enc (nth xs k)) isAgg136 sizeOf136 rfl rfl rfl ((hs.keep E9 (fun _ h => h)).at_ k (by omega)) (hk _) (t_call (fs := []) (cs := caps) ho rfl rfl rfl rfl (hp (nth xs k) (nth_mem (by omega)) _ E9) (fun v16 w17 r19 => ?_)))
  obtain ⟨rfl, u18⟩ := r19
  have zu18 := u18.size
  refine t_nil' (hK14 _ _ (c_cond rfl (fun g16 => ?_) (fun g16 => ?_)))
  ·
   refine c_seq fun K21 hK21 => (c_region (t_move rfl rfl rfl (t_assign rfl rfl rfl (t_nil' (hK21 _ _ (c_ret (f_ret1 (v := .int .i64 (k : Int)) results113 rfl ?_)))))))
   exact ⟨⟨_, rfl, any_hit (by omega) g16⟩, (E9.nx u18)⟩
  refine c_skip (hK12 _ _ (c_region (t_ari rfl rfl rfl rfl rfl (by omega) (t_move rfl rfl rfl (t_nil' ?_)))))
  exact hK4 (k + 1) _ _ (by omega) ⟨rfl, rfl, rfl, rfl, trivial⟩ ⟨(u6.nx u18), (by omega), (any_snoc (by omega) hnot g16)⟩
 refine c_exit (hK2 _ _ (c_seq fun K22 hK22 => (c_region (t_assign rfl rfl rfl (t_nil' (hK22 _ _ (c_ret (f_ret1 (v := .int .i64 (-1)) results113 rfl ?_))))))))
 exact ⟨⟨_, rfl, any_none (by omega) hnot⟩, E9⟩

theorem containsP_c {α : Type} [Inhabited α] (enc : α → List Value) (hk : ∀ x, (enc x).length = 2) (p : α → Bool) (fv : FuncId) (caps : List Value) (xs : List α) (ao : Option Addr) (b o cap : Nat) (w0 : World) (ho : Own Tryz.prog fv) (hp : ∀ x ∈ xs, ∀ w, Ext w0 w → CallsV Tryz.prog fv ([.agg (enc x).toArray] ++ caps) w fun v w' => v = .bool (p x) ∧ Ext w w') (hs : Sl enc 2 w0 ao b o xs) (hl : xs.length ≤ 1000000) :
    CallsV Tryz.prog 93 [.slice ao xs.length cap, .func (.func fv) #[] (caps).toArray] w0 (fun v w' => v = .bool (xs.any p) ∧ Ext w0 w') := by
 refine f_enter (N := 9) func93 rfl rfl rfl (c_seq fun K1 hK1 => (c_region (t_assign rfl rfl rfl (t_nil' (hK1 _ _ (c_seq fun K2 hK2 => (c_region (t_move rfl rfl rfl (t_move rfl rfl rfl (t_call own113 rfl rfl rfl rfl (indexP_c enc hk p fv caps xs ao b o cap _ ho hp hs hl) (fun v3 w4 r6 => ?_)))))))))))
 obtain ⟨⟨n, rfl, hn⟩, u5⟩ := r6
 have zu5 := u5.size
 refine t_cmp rfl rfl rfl rfl rfl (t_assign rfl rfl rfl (t_nil' (hK2 _ _ (c_ret (f_ret1 (v := .bool (decide (0 ≤ n))) results93 rfl ?_)))))
 exact ⟨by rw [hn], ((Upd.refl (fun _ => False) w0).nx u5)⟩

theorem badPpr_c (p : Ppr) (w0 : World) :
    CallsV Tryz.prog 94 [.agg #[.int .i64 p.r, .int .i64 p.u]] w0 (fun v w' => v = .bool (!okPpr p) ∧ Ext w0 w') := by
 refine f_enter (N := 15) func94 rfl rfl rfl (c_seq fun K1 hK1 => (c_region (t_box (cs := [.int .i64 p.r, .int .i64 p.u]) rfl rfl rfl rfl (fun bk2 w3 ebk2 sbk2 B4 u5 => ?_))))
 have zu5 := u5.size
 refine t_assign rfl rfl rfl (t_nil' (hK1 _ _ (c_seq fun K7 hK7 => (c_region (t_field underlying136 rfl sizeOf3 (0) rfl rfl rfl rfl (t_load isAgg3 rfl rfl rfl (B4.get rfl) (t_bslice (ps := [(0, .int .i64 p.r)]) (cs := [.int .i64 p.r]) (e := 3) rfl rfl ⟨rfl, rfl⟩ (fun w => by kernel_rfl) (fun bk8 w9 ebk8 sbk8 B10 u11 => ?_))))))))
 have zu11 := u11.size
 refine t_call own43 rfl rfl rfl rfl (within1_v 0 19 p.r _ _ _ B10) (fun v13 w14 r16 => ?_)
 obtain ⟨rfl, u15⟩ := r16
 have zu15 := u15.size
 have E17 := (((Upd.refl (fun _ => False) w0).nx u5).nx u11).nx u15
 refine t_notp rfl rfl rfl (t_move rfl rfl rfl (t_splitp 8 rfl (fun g8 => ?_) (fun g8 => ?_)))
 ·
  refine t_skip rfl rfl rfl (t_skip rfl rfl rfl (t_skip rfl rfl rfl (t_skip rfl rfl rfl (t_skip rfl rfl rfl (t_pick_t rfl rfl rfl rfl (t_assign rfl rfl rfl (t_nil' (hK7 _ _ (c_ret (f_ret1 (v := .bool true) results94 rfl ?_))))))))))
  exact ⟨congrArg Value.bool (by rw [Bool.eq_iff_iff]; simp only [okPpr, Bool.not_eq_true, decide_eq_true_eq, Bool.not_eq_eq_eq_not, decide_eq_false_iff_not] <;> grind), E17⟩
 refine t_field underlying136 rfl sizeOf3 (1) rfl rfl rfl rfl ?_
 have B18 := ((B4.kx u11).kx u15)
 refine t_load isAgg3 rfl rfl rfl (B18.get rfl) (t_bslice (ps := [(0, .int .i64 p.u)]) (cs := [.int .i64 p.u]) (e := 3) rfl rfl ⟨rfl, rfl⟩ (fun w => by kernel_rfl) (fun bk19 w20 ebk19 sbk19 B21 u22 => ?_))
 have zu22 := u22.size
 refine t_call own43 rfl rfl rfl rfl (within1_v 0 20160 p.u _ _ _ B21) (fun v24 w25 r27 => ?_)
 obtain ⟨rfl, u26⟩ := r27
 have zu26 := u26.size
 refine t_notp rfl rfl rfl (t_pick_f rfl rfl rfl rfl (t_assign rfl rfl rfl (t_nil' (hK7 _ _ (c_ret (f_ret1 (v := .bool (decide (¬ ((0 ≤ p.u ∧ p.u ≤ 20160))))) results94 rfl ?_))))))
 exact ⟨congrArg Value.bool (by rw [Bool.eq_iff_iff]; simp only [okPpr, Bool.not_eq_true, decide_eq_true_eq, Bool.not_eq_eq_eq_not, decide_eq_false_iff_not] <;> grind), ((E17.nx u22).nx u26)⟩

theorem isSailor_c (f u : Int) (ps : List Ppr) (ap : Option Addr) (bp op cp : Nat) (ds : List Dty) (ad : Option Addr) (bd od cd : Nat) (w0 : World) (hp : Sl encPpr 2 w0 ap bp op ps) (hpl : ps.length ≤ 1000000) (hd : Sl encDty 4 w0 ad bd od ds) (hdl : ds.length ≤ 1000000) :
    CallsV Tryz.prog 64 [.agg #[.int .i64 f, .int .i64 u, .slice ap ps.length cp, .slice ad ds.length cd]] w0 (fun v w' => v = .bool (okSlr ⟨f, u, ps, ds⟩) ∧ Ext w0 w') := by
 refine f_enter (N := 36) func64 rfl rfl rfl (c_seq fun K1 hK1 => (c_region (t_box (cs := [.int .i64 f, .int .i64 u, .slice ap ps.length cp, .slice ad ds.length cd]) rfl rfl rfl rfl (fun bk2 w3 ebk2 sbk2 B4 u5 => ?_))))
 have zu5 := u5.size
 have E6 := (Upd.refl (fun _ => False) w0).nx u5
 refine t_assign rfl rfl rfl (t_nil' (hK1 _ _ (c_seq fun K7 hK7 => (c_region (t_field underlying79 rfl sizeOf77 (2) rfl rfl rfl rfl (t_load isAgg77 rfl rfl rfl (B4.get rfl) (t_call own93 rfl rfl rfl rfl (containsP_c encPpr (fun _ => rfl) (fun x => !okPpr x) 94 [] ps ap bp op cp _ own94 (fun x _ w _ => badPpr_c x w) (hp.keep E6 (fun _ h => h)) hpl) (fun v8 w9 r11 => ?_))))))))
 obtain ⟨rfl, u10⟩ := r11
 have zu10 := u10.size
 refine t_not rfl rfl rfl (t_assign rfl rfl rfl (t_nil' (hK7 _ _ (c_seq fun K13 hK13 => (c_region (t_field underlying79 rfl sizeOf3 (0) rfl rfl rfl rfl ?_))))))
 have B14 := (B4.kx u10)
 refine t_load isAgg3 rfl rfl rfl (B14.get rfl) (t_field underlying79 rfl sizeOf3 (1) rfl rfl rfl rfl (t_load isAgg3 rfl rfl rfl (B14.get rfl) (t_bslice (ps := [(0, .int .i64 f), (1, .int .i64 u)]) (cs := [.int .i64 f, .int .i64 u]) (e := 3) rfl rfl ⟨rfl, rfl⟩ (fun w => by kernel_rfl) (fun bk15 w16 ebk15 sbk15 B17 u18 => ?_))))
 have zu18 := u18.size
 refine t_call own43 rfl rfl rfl rfl (within2_v 0 20160 f u _ _ _ B17) (fun v20 w21 r23 => ?_)
 obtain ⟨rfl, u22⟩ := r23
 have zu22 := u22.size
 have E24 := ((E6.nx u10).nx u18).nx u22
 refine t_move rfl rfl rfl (t_splitp 14 rfl (fun g14 => ?_) (fun g14 => ?_))
 ·
  refine t_field underlying79 rfl sizeOf3 (0) rfl rfl rfl rfl ?_
  have B25 := ((B14.kx u18).kx u22)
  refine t_load isAgg3 rfl rfl rfl (B25.get rfl) (t_field underlying79 rfl sizeOf3 (1) rfl rfl rfl rfl (t_load isAgg3 rfl rfl rfl (B25.get rfl) (t_cmp rfl rfl rfl rfl rfl (t_pick_t rfl rfl rfl rfl (t_move rfl rfl rfl (t_splitp 21 rfl (fun g21 => ?_) (fun g21 => ?_)))))))
  ·
   refine t_field underlying79 rfl sizeOf77 (2) rfl rfl rfl rfl (t_load isAgg77 rfl rfl rfl (B25.get rfl) (t_len underlying77 rfl rfl rfl rfl (t_cmp rfl rfl rfl rfl rfl (t_pick_t rfl rfl rfl rfl (t_move rfl rfl rfl (t_splitp 27 rfl (fun g27 => ?_) (fun g27 => ?_)))))))
   ·
    refine t_move rfl rfl rfl (t_pick_t rfl rfl rfl rfl (t_move rfl rfl rfl (t_split 30 rfl (fun g30 => ?_) (fun g30 => ?_))))
    ·
     refine t_field underlying79 rfl sizeOf24 (3) rfl rfl rfl rfl (t_load isAgg24 rfl rfl rfl (B25.get rfl) (t_call own76 rfl rfl rfl rfl (checkDuties_c ds ad bd od cd _ (hd.keep E24 (fun _ h => h)) hdl) (fun v26 w27 r29 => ?_)))
     obtain ⟨rfl, u28⟩ := r29
     have zu28 := u28.size
     refine t_cmp rfl rfl rfl rfl rfl (t_pick_t rfl rfl rfl rfl (t_assign rfl rfl rfl (t_nil' (hK13 _ _ (c_ret (f_ret1 (v := .bool (decide ((chkD ds) = 0))) results64 rfl ?_))))))
     exact ⟨congrArg Value.bool (by
       have hany : (!(ps.any fun p => !okPpr p)) = decide (∀ p ∈ ps, okPpr p = true) := by rw [Bool.eq_iff_iff]; simp
       rw [Bool.eq_iff_iff]; simp only [okSlr, decide_eq_true_eq] <;> grind), (E24.nx u28)⟩
    refine t_skip rfl rfl rfl (t_skip rfl rfl rfl (t_skip rfl rfl rfl (t_skip rfl rfl rfl (t_pick_f rfl rfl rfl rfl (t_assign rfl rfl rfl (t_nil' (hK13 _ _ (c_ret (f_ret1 (v := .bool false) results64 rfl ?_)))))))))
    exact ⟨congrArg Value.bool (by
      have hany : (!(ps.any fun p => !okPpr p)) = decide (∀ p ∈ ps, okPpr p = true) := by rw [Bool.eq_iff_iff]; simp
      rw [Bool.eq_iff_iff]; simp only [okSlr, decide_eq_true_eq] <;> grind), E24⟩
   refine t_skip rfl rfl rfl (t_pick_f rfl rfl rfl rfl (t_move rfl rfl rfl (t_skip rfl rfl rfl (t_skip rfl rfl rfl (t_skip rfl rfl rfl (t_skip rfl rfl rfl (t_pick_f rfl rfl rfl rfl (t_assign rfl rfl rfl (t_nil' (hK13 _ _ (c_ret (f_ret1 (v := .bool false) results64 rfl ?_))))))))))))
   exact ⟨congrArg Value.bool (by
     have hany : (!(ps.any fun p => !okPpr p)) = decide (∀ p ∈ ps, okPpr p = true) := by rw [Bool.eq_iff_iff]; simp
     rw [Bool.eq_iff_iff]; simp only [okSlr, decide_eq_true_eq] <;> grind), E24⟩
  refine t_skip rfl rfl rfl (t_skip rfl rfl rfl (t_skip rfl rfl rfl (t_skip rfl rfl rfl (t_pick_f rfl rfl rfl rfl (t_move rfl rfl rfl (t_skip rfl rfl rfl (t_pick_f rfl rfl rfl rfl (t_move rfl rfl rfl (t_skip rfl rfl rfl (t_skip rfl rfl rfl (t_skip rfl rfl rfl (t_skip rfl rfl rfl (t_pick_f rfl rfl rfl rfl (t_assign rfl rfl rfl (t_nil' (hK13 _ _ (c_ret (f_ret1 (v := .bool false) results64 rfl ?_))))))))))))))))))
  exact ⟨congrArg Value.bool (by
    have hany : (!(ps.any fun p => !okPpr p)) = decide (∀ p ∈ ps, okPpr p = true) := by rw [Bool.eq_iff_iff]; simp
    rw [Bool.eq_iff_iff]; simp only [okSlr, decide_eq_true_eq] <;> grind), E24⟩
 refine t_skip rfl rfl rfl (t_skip rfl rfl rfl (t_skip rfl rfl rfl (t_skip rfl rfl rfl (t_skip rfl rfl rfl (t_pick_f rfl rfl rfl rfl (t_move rfl rfl rfl (t_skip rfl rfl rfl (t_skip rfl rfl rfl (t_skip rfl rfl rfl (t_skip rfl rfl rfl (t_pick_f rfl rfl rfl rfl (t_move rfl rfl rfl (t_skip rfl rfl rfl (t_pick_f rfl rfl rfl rfl (t_move rfl rfl rfl (t_skip rfl rfl rfl (t_skip rfl rfl rfl (t_skip rfl rfl rfl (t_skip rfl rfl rfl (t_pick_f rfl rfl rfl rfl (t_assign rfl rfl rfl (t_nil' (hK13 _ _ ?_)))))))))))))))))))))))
 refine c_ret (f_ret1 (v := .bool false) results64 rfl ?_)
 exact ⟨congrArg Value.bool (by
   have hany : (!(ps.any fun p => !okPpr p)) = decide (∀ p ∈ ps, okPpr p = true) := by rw [Bool.eq_iff_iff]; simp
   rw [Bool.eq_iff_iff]; simp only [okSlr, decide_eq_true_eq] <;> grind), E24⟩

theorem isLeg_c (x : Leg) (w0 : World) :
    CallsV Tryz.prog 65 [.agg #[.int .i64 x.r, .int .i64 x.t.bl, .int .i64 x.t.bh, .int .i64 x.t.el, .int .i64 x.t.eh, .int .i64 x.h, .int .i64 x.p]] w0 (fun v w' => v = .bool (okLeg x) ∧ Ext w0 w') := by
 refine f_enter (N := 26) func65 rfl rfl rfl (c_seq fun K1 hK1 => (c_region (t_box (cs := [.int .i64 x.r, .int .i64 x.t.bl, .int .i64 x.t.bh, .int .i64 x.t.el, .int .i64 x.t.eh, .int .i64 x.h, .int .i64 x.p]) rfl rfl rfl rfl (fun bk2 w3 ebk2 sbk2 B4 u5 => ?_))))
 have zu5 := u5.size
 refine t_assign rfl rfl rfl (t_nil' (hK1 _ _ (c_seq fun K7 hK7 => (c_region (t_field underlying68 rfl sizeOf3 (0) rfl rfl rfl rfl (t_load isAgg3 rfl rfl rfl (B4.get rfl) (t_bslice (ps := [(0, .int .i64 x.r)]) (cs := [.int .i64 x.r]) (e := 3) rfl rfl ⟨rfl, rfl⟩ (fun w => by kernel_rfl) (fun bk8 w9 ebk8 sbk8 B10 u11 => ?_))))))))
 have zu11 := u11.size
 refine t_call own43 rfl rfl rfl rfl (within1_v 0 19 x.r _ _ _ B10) (fun v13 w14 r16 => ?_)
 obtain ⟨rfl, u15⟩ := r16
 have zu15 := u15.size
 have E17 := (((Upd.refl (fun _ => False) w0).nx u5).nx u11).nx u15
 refine t_move rfl rfl rfl (t_splitp 7 rfl (fun g7 => ?_) (fun g7 => ?_))
 ·
  refine t_field underlying68 rfl sizeOf37 (1) rfl rfl rfl rfl ?_
  have B18 := ((B4.kx u11).kx u15)
  refine t_loadN (vs := [.int .i64 x.t.bl, .int .i64 x.t.bh, .int .i64 x.t.el, .int .i64 x.t.eh]) isAgg37 sizeOf37 rfl rfl rfl (B18.at.sub 1 4) rfl (t_call own95 rfl rfl rfl rfl (isDuty_c x.t _) (fun v19 w20 r22 => ?_))
  obtain ⟨rfl, u21⟩ := r22
  have zu21 := u21.size
  have E23 := E17.nx u21
  refine t_pick_t rfl rfl rfl rfl (t_move rfl rfl rfl (t_split 12 rfl (fun g12 => ?_) (fun g12 => ?_)))
  ·
   refine t_field underlying68 rfl sizeOf3 (5) rfl rfl rfl rfl ?_
   have B24 := (B18.kx u21)
   refine t_load isAgg3 rfl rfl rfl (B24.get rfl) (t_bslice (ps := [(0, .int .i64 x.h)]) (cs := [.int .i64 x.h]) (e := 3) rfl rfl ⟨rfl, rfl⟩ (fun w => by kernel_rfl) (fun bk25 w26 ebk25 sbk25 B27 u28 => ?_))
   have zu28 := u28.size
   refine t_call own43 rfl rfl rfl rfl (within1_v 1 3 x.h _ _ _ B27) (fun v30 w31 r33 => ?_)
   obtain ⟨rfl, u32⟩ := r33
   have zu32 := u32.size
   have E34 := (E23.nx u28).nx u32
   refine t_pick_t rfl rfl rfl rfl (t_move rfl rfl rfl (t_splitp 18 rfl (fun g18 => ?_) (fun g18 => ?_)))
   ·
    refine t_field underlying68 rfl sizeOf3 (5) rfl rfl rfl rfl ?_
    have B35 := ((B24.kx u28).kx u32)
    refine t_load isAgg3 rfl rfl rfl (B35.get rfl) (t_field underlying68 rfl sizeOf3 (6) rfl rfl rfl rfl (t_load isAgg3 rfl rfl rfl (B35.get rfl) (t_bslice (ps := [(0, .int .i64 x.p)]) (cs := [.int .i64 x.p]) (e := 3) rfl rfl ⟨rfl, rfl⟩ (fun w => by kernel_rfl) (fun bk36 w37 ebk36 sbk36 B38 u39 => ?_))))
    have zu39 := u39.size
    refine t_call own43 rfl rfl rfl rfl (within1_v 0 x.h x.p _ _ _ B38) (fun v41 w42 r44 => ?_)
    obtain ⟨rfl, u43⟩ := r44
    have zu43 := u43.size
    refine t_pick_t rfl rfl rfl rfl (t_assign rfl rfl rfl (t_nil' (hK7 _ _ (c_ret (f_ret1 (v := .bool (decide (0 ≤ x.p ∧ x.p ≤ x.h))) results65 rfl ?_)))))
    exact ⟨congrArg Value.bool (by rw [Bool.eq_iff_iff]; simp only [okLeg, decide_eq_true_eq] <;> grind), ((E34.nx u39).nx u43)⟩
   refine t_skip rfl rfl rfl (t_skip rfl rfl rfl (t_skip rfl rfl rfl (t_skip rfl rfl rfl (t_skip rfl rfl rfl (t_skip rfl rfl rfl (t_pick_f rfl rfl rfl rfl (t_assign rfl rfl rfl (t_nil' (hK7 _ _ (c_ret (f_ret1 (v := .bool false) results65 rfl ?_)))))))))))
   exact ⟨congrArg Value.bool (by rw [Bool.eq_iff_iff]; simp only [okLeg, decide_eq_true_eq] <;> grind), E34⟩
  refine t_skip rfl rfl rfl (t_skip rfl rfl rfl (t_skip rfl rfl rfl (t_skip rfl rfl rfl (t_pick_f rfl rfl rfl rfl (t_move rfl rfl rfl (t_skip rfl rfl rfl (t_skip rfl rfl rfl (t_skip rfl rfl rfl (t_skip rfl rfl rfl (t_skip rfl rfl rfl (t_skip rfl rfl rfl (t_pick_f rfl rfl rfl rfl (t_assign rfl rfl rfl (t_nil' (hK7 _ _ (c_ret (f_ret1 (v := .bool false) results65 rfl ?_)))))))))))))))))
  exact ⟨congrArg Value.bool (by rw [Bool.eq_iff_iff]; simp only [okLeg, decide_eq_true_eq] <;> grind), E23⟩
 refine t_skip rfl rfl rfl (t_skip rfl rfl rfl (t_skip rfl rfl rfl (t_pick_f rfl rfl rfl rfl (t_move rfl rfl rfl (t_skip rfl rfl rfl (t_skip rfl rfl rfl (t_skip rfl rfl rfl (t_skip rfl rfl rfl (t_pick_f rfl rfl rfl rfl (t_move rfl rfl rfl (t_skip rfl rfl rfl (t_skip rfl rfl rfl (t_skip rfl rfl rfl (t_skip rfl rfl rfl (t_skip rfl rfl rfl (t_skip rfl rfl rfl (t_pick_f rfl rfl rfl rfl (t_assign rfl rfl rfl (t_nil' (hK7 _ _ (c_ret (f_ret1 (v := .bool false) results65 rfl ?_))))))))))))))))))))))
 exact ⟨congrArg Value.bool (by rw [Bool.eq_iff_iff]; simp only [okLeg, decide_eq_true_eq] <;> grind), E17⟩

theorem board_c (f u : Int) (ap : Option Addr) (np cp : Nat) (ds : List Dty) (ad : Option Addr) (bd od cd : Nat) (w0 : World) (hd : Sl encDty 4 w0 ad bd od ds) (hdl : ds.length ≤ 100000) (hpos : 0 < w0.heap.size) :
    CallsV Tryz.prog 66 [.agg #[.int .i64 f, .int .i64 u, .slice ap np cp, .slice ad ds.length cd]] w0 (fun v w' => (∃ ao g c, v = .agg #[.int .i64 f, .int .i64 u, .slice ap np cp, .slice ad ds.length cd, .slice ao (srtS (ds.map lngS)).length c] ∧ Acc encSp 2 109 w0.heap.size w' ao g c (srtS (ds.map lngS))) ∧ Ext w0 w') := by
 refine f_enter (N := 8) func66 rfl rfl rfl (c_seq fun K1 hK1 => (c_region (t_box (cs := [.int .i64 f, .int .i64 u, .slice ap np cp, .slice ad ds.length cd]) rfl rfl rfl rfl (fun bk2 w3 ebk2 sbk2 B4 u5 => ?_))))
 have zu5 := u5.size
 refine t_alloc (cs := [.int .i64 0, .int .i64 0, .slice none 0 0, .slice none 0 0, .slice none 0 0]) zeroValue131 rfl rfl rfl (fun bk7 w8 ebk7 sbk7 B9 u10 => ?_)
 have zu10 := u10.size
 refine t_nil' (hK1 _ _ (c_seq fun K12 hK12 => (c_drawnM follows (fun i => i = bk7) (.look 0 (.look 1 (.look 2 (.act 3 (.look 4 (.act 5 .done .stop)) .stop)))) (by kernel_rfl) fun w13 u14 => ?_)))
 have zu14 := u14.size
 have E15 := (((Upd.refl (fun _ => False) w0).nx u5).nx u10).nx u14
 have B16 := ((B4.kx u10).kx u14)
 refine y_loadN (vs := [.int .i64 f, .int .i64 u, .slice ap np cp, .slice ad ds.length cd]) isAgg79 sizeOf79 rfl rfl rfl (B16.at.sub 0 4) rfl (by show ¬ (bk2 = bk7); first | omega | assumption) (y_field underlying79 rfl sizeOf24 (3) rfl rfl rfl rfl (y_load isAgg24 rfl rfl rfl (B16.get rfl) (by show ¬ (bk2 = bk7); first | omega | assumption) (s_do (t_call own47 rfl rfl rfl rfl (rosterL_c ds ad bd od cd _ (hd.keep E15 (fun _ h => h)) (by omega) (by omega)) (fun v18 w19 r21 => ?_)))))
 obtain ⟨⟨aoR17, gR17, cR17, rfl, haR17⟩, u20⟩ := r21
 have zu20 := u20.size
 have lt_gR17 := haR17.lt
 refine s_next ((Upd.refl _ _).nx u20) (y_build (ps := [(0, .agg #[.int .i64 f, .int .i64 u, .slice ap np cp, .slice ad ds.length cd]), (1, .slice aoR17 ((srtS (ds.map lngS)).length) cR17)]) (v := .agg #[.int .i64 f, .int .i64 u, .slice ap np cp, .slice ad ds.length cd, .slice aoR17 ((srtS (ds.map lngS)).length) cR17]) rfl rfl ⟨rfl, rfl⟩ (fun w => by kernel_rfl) (s_do ?_))
 have B23 := ((B9.kx u14).kx u20)
 refine t_st (vs := [.int .i64 f, .int .i64 u, .slice ap np cp, .slice ad ds.length cd, .slice aoR17 ((srtS (ds.map lngS)).length) cR17]) sizeOf131 rfl rfl rfl B23 rfl rfl rfl rfl (fun w24 sw24 B26 u25 => ?_)
 have zu25 := u25.size
 have B26 : Blk w24 bk7 131 [.int .i64 f, .int .i64 u, .slice ap np cp, .slice ad ds.length cd, .slice aoR17 ((srtS (ds.map lngS)).length) cR17] := B26
 refine s_next ((Upd.refl _ _).next u25 (fun i hi (h : i = bk7) => show w13.heap.size ≤ i ∨ (i = bk7) by first | omega | exact .inr h)) (s_nil (hK12 _ _ (c_ret (f_ret1 (v := .agg #[.int .i64 f, .int .i64 u, .slice ap np cp, .slice ad ds.length cd, .slice aoR17 ((srtS (ds.map lngS)).length) cR17]) results66 ⟨_, _, rfl, run_loadVarN (vs := [.int .i64 f, .int .i64 u, .slice ap np cp, .slice ad ds.length cd, .slice aoR17 ((srtS (ds.map lngS)).length) cR17]) isAgg131 sizeOf131 rfl (B26.at.sub 0 5)⟩ ?_))))
 have D28 := (haR17.keep u25 (fun hb => show ¬ (gR17 = bk7) by first | omega | assumption))
 obtain ⟨g9, hac9⟩ := (D28).lower (base' := w0.heap.size) (by omega) hpos
 exact ⟨⟨_, g9, _, rfl, hac9⟩, ((E15.nx u20).next u25 (fun i hi h => by omega))⟩

theorem can_c (r : Rul) (f u : Int) (ap : Option Addr) (np cp : Nat) (ad : Option Addr) (nd cd : Nat) (l : List Sp) (al : Option Addr) (gl cl : Nat) (base : Nat) (x : Leg) (w0 : World) (hl : Acc encSp 2 109 base w0 al gl cl l) (hll : l.length ≤ 100) (hs : Srt l) (hok : ∀ s ∈ l, OkSp s) (hr : okRul r = true) (hx : okLeg x = true) (hb0 : 0 < base) (hbw : base ≤ w0.heap.size) :
    CallsV Tryz.prog 67 [.agg #[.int .i64 r.rest, .int .i64 r.span, .int .i64 r.work, .int .i64 r.week, .int .i64 r.ww], .agg #[.int .i64 f, .int .i64 u, .slice ap np cp, .slice ad nd cd, .slice al l.length cl], .agg #[.int .i64 x.r, .int .i64 x.t.bl, .int .i64 x.t.bh, .int .i64 x.t.el, .int .i64 x.t.eh, .int .i64 x.h, .int .i64 x.p]] w0 (fun v w' => (∃ ao g c xs, v = .tuple #[.agg #[.int .i64 f, .int .i64 u, .slice ap np cp, .slice ad nd cd, .slice ao (List.length xs) c], .bool (canB r f u l x)] ∧ xs = canT f u l x ∧ Acc encSp 2 109 base w' ao g c xs ∧ (winM f u x = true → base ≤ g → w0.heap.size ≤ g)) ∧ Ext w0 w') := by
 refine f_enter (N := 37) func67 rfl rfl rfl (c_seq fun K1 hK1 => (c_region (t_box (cs := [.int .i64 r.rest, .int .i64 r.span, .int .i64 r.work, .int .i64 r.week, .int .i64 r.ww]) rfl rfl rfl rfl (fun bk2 w3 ebk2 sbk2 B4 u5 => ?_))))
 have zu5 := u5.size
 refine t_box (cs := [.int .i64 f, .int .i64 u, .slice ap np cp, .slice ad nd cd, .slice al l.length cl]) rfl rfl rfl rfl (fun bk7 w8 ebk7 sbk7 B9 u10 => ?_)
 have zu10 := u10.size
 refine t_box (cs := [.int .i64 x.r, .int .i64 x.t.bl, .int .i64 x.t.bh, .int .i64 x.t.el, .int .i64 x.t.eh, .int .i64 x.h, .int .i64 x.p]) rfl rfl rfl rfl (fun bk12 w13 ebk12 sbk12 B14 u15 => ?_)
 have zu15 := u15.size
 refine t_alloc (cs := [.int .i64 0, .int .i64 0, .slice none 0 0, .slice none 0 0, .slice none 0 0]) zeroValue131 rfl rfl rfl (fun bk17 w18 ebk17 sbk17 B19 u20 => ?_)
 have zu20 := u20.size
 refine t_assign rfl rfl rfl (t_nil' (hK1 _ _ (c_seq fun K22 hK22 => (c_region (t_field underlying68 rfl sizeOf37 (1) rfl rfl rfl rfl ?_)))))
 have B23 := (B14.kx u20)
 refine t_loadN (vs := [.int .i64 x.t.bl, .int .i64 x.t.bh, .int .i64 x.t.el, .int .i64 x.t.eh]) isAgg37 sizeOf37 rfl rfl rfl (B23.at.sub 1 4) rfl (t_call own48 rfl rfl rfl rfl (longest_c x.t _) (fun v24 w25 r27 => ?_))
 obtain ⟨rfl, u26⟩ := r27
 have zu26 := u26.size
 refine t_alloc (cs := [.int .i64 0, .int .i64 0]) zeroValue109 rfl rfl rfl (fun bk29 w30 ebk29 sbk29 B31 u32 => ?_)
 have zu32 := u32.size
 refine t_st (vs := [.int .i64 ((lngS x.t).b), .int .i64 ((lngS x.t).e)]) sizeOf109 rfl rfl rfl B31 rfl rfl rfl rfl (fun w34 sw34 B36 u35 => ?_)
 have zu35 := u35.size
 have E37 := (((((((Upd.refl (fun _ => False) w0).nx u5).nx u10).nx u15).nx u20).nx u26).nx u32).next u35 (fun i hi h => by omega)
 have B36 : Blk w34 bk29 109 [.int .i64 ((lngS x.t).b), .int .i64 ((lngS x.t).e)] := B36
 refine t_nil' (hK22 _ _ (c_seq fun K38 hK38 => (c_seq fun K39 hK39 => (c_region (t_field underlying109 rfl sizeOf3 (0) rfl rfl rfl rfl (t_load isAgg3 rfl rfl rfl (B36.get rfl) (t_field underlying131 rfl sizeOf79 (0) rfl rfl rfl rfl (t_field underlying79 rfl sizeOf3 (0) rfl rfl rfl rfl ?_))))))))
 have B40 := (((((B9.kx u15).kx u20).kx u26).kx u32).keep u35 (by omega))
 refine t_load isAgg3 rfl rfl rfl (B40.get rfl) (t_cmp rfl rfl rfl rfl rfl (t_move rfl rfl rfl (t_splitp 18 rfl (fun g18 => ?_) (fun g18 => ?_))))
 ·
  refine t_skip rfl rfl rfl (t_skip rfl rfl rfl (t_skip rfl rfl rfl (t_skip rfl rfl rfl (t_skip rfl rfl rfl (t_skip rfl rfl rfl (t_pick_t rfl rfl rfl rfl (t_nil' (hK39 _ _ (c_cond_t rfl (c_seq fun K41 hK41 => (c_region (t_loadN (vs := [.int .i64 f, .int .i64 u, .slice ap np cp, .slice ad nd cd, .slice al l.length cl]) isAgg131 sizeOf131 rfl rfl rfl (B40.at.sub 0 5) rfl ?_))))))))))))
  have B42 := (((B19.kx u26).kx u32).keep u35 (by omega))
  refine t_st (vs := [.int .i64 f, .int .i64 u, .slice ap np cp, .slice ad nd cd, .slice al l.length cl]) sizeOf131 rfl rfl rfl B42 rfl rfl rfl rfl (fun w43 sw43 B45 u44 => ?_)
  have zu44 := u44.size
  have E46 := E37.next u44 (fun i hi h => by omega)
  have B45 : Blk w43 bk17 131 [.int .i64 f, .int .i64 u, .slice ap np cp, .slice ad nd cd, .slice al l.length cl] := B45
  refine t_assign rfl rfl rfl (t_nil' (hK41 _ _ (c_ret (f_ret2 (v1 := .agg #[.int .i64 f, .int .i64 u, .slice ap np cp, .slice ad nd cd, .slice al l.length cl]) (v2 := .bool false) results67 ⟨_, _, rfl, run_loadVarN (vs := [.int .i64 f, .int .i64 u, .slice ap np cp, .slice ad nd cd, .slice al l.length cl]) isAgg131 sizeOf131 rfl (B45.at.sub 0 5)⟩ rfl ?_))))
  have hwn : winM f u x = false := by unfold winM; simp only [decide_eq_false_iff_not]; show ¬ (f ≤ x.t.bl ∧ x.t.eh ≤ u); have e1 : (lngS x.t).b = x.t.bl := rfl; have e2 : (lngS x.t).e = x.t.eh := rfl; omega
  exact ⟨⟨al, gl, cl, l, by unfold canB; rw [hwn]; rfl, by unfold canT; rw [hwn]; rfl, (hl.keep E46 (fun _ h => h)), fun h => by rw [hwn] at h; cases h⟩, E46⟩
 refine t_field underlying109 rfl sizeOf3 (1) rfl rfl rfl rfl (t_load isAgg3 rfl rfl rfl (B36.get rfl) (t_field underlying131 rfl sizeOf79 (0) rfl rfl rfl rfl (t_field underlying79 rfl sizeOf3 (1) rfl rfl rfl rfl (t_load isAgg3 rfl rfl rfl (B40.get rfl) (t_cmp rfl rfl rfl rfl rfl (t_pick_f rfl rfl rfl rfl (t_nil' (hK39 _ _ (c_condp rfl (fun g25 => ?_) (fun g25 => ?_))))))))))
 ·
  refine c_seq fun K47 hK47 => (c_region (t_loadN (vs := [.int .i64 f, .int .i64 u, .slice ap np cp, .slice ad nd cd, .slice al l.length cl]) isAgg131 sizeOf131 rfl rfl rfl (B40.at.sub 0 5) rfl ?_))
  have B48 := (((B19.kx u26).kx u32).keep u35 (by omega))
  refine t_st (vs := [.int .i64 f, .int .i64 u, .slice ap np cp, .slice ad nd cd, .slice al l.length cl]) sizeOf131 rfl rfl rfl B48 rfl rfl rfl rfl (fun w49 sw49 B51 u50 => ?_)
  have zu50 := u50.size
  have E52 := E37.next u50 (fun i hi h => by omega)
  have B51 : Blk w49 bk17 131 [.int .i64 f, .int .i64 u, .slice ap np cp, .slice ad nd cd, .slice al l.length cl] := B51
  refine t_assign rfl rfl rfl (t_nil' (hK47 _ _ (c_ret (f_ret2 (v1 := .agg #[.int .i64 f, .int .i64 u, .slice ap np cp, .slice ad nd cd, .slice al l.length cl]) (v2 := .bool false) results67 ⟨_, _, rfl, run_loadVarN (vs := [.int .i64 f, .int .i64 u, .slice ap np cp, .slice ad nd cd, .slice al l.length cl]) isAgg131 sizeOf131 rfl (B51.at.sub 0 5)⟩ rfl ?_))))
  have hwn : winM f u x = false := by unfold winM; simp only [decide_eq_false_iff_not]; show ¬ (f ≤ x.t.bl ∧ x.t.eh ≤ u); have e1 : (lngS x.t).b = x.t.bl := rfl; have e2 : (lngS x.t).e = x.t.eh := rfl; omega
  exact ⟨⟨al, gl, cl, l, by unfold canB; rw [hwn]; rfl, by unfold canT; rw [hwn]; rfl, (hl.keep E52 (fun _ h => h)), fun h => by rw [hwn] at h; cases h⟩, E52⟩
 refine c_skip (hK38 _ _ (c_seq fun K53 hK53 => (c_region (t_field underlying131 rfl sizeOf103 (4) rfl rfl rfl rfl (t_load isAgg103 rfl rfl rfl (B40.get rfl) (t_loadN (vs := [.int .i64 ((lngS x.t).b), .int .i64 ((lngS x.t).e)]) isAgg109 sizeOf109 rfl rfl rfl (B36.at.sub 0 2) rfl (t_call own51 rfl rfl rfl rfl (with_c l al gl 0 cl (lngS x.t) _ ((hl.keep E37 (fun _ h => h)).sl (fun _ => rfl)) (by omega) hs (by omega)) (fun v55 w56 r58 => ?_))))))))
 obtain ⟨⟨aoW54, gW54, cW54, rfl, haW54⟩, u57⟩ := r58
 have zu57 := u57.size
 have lt_gW54 := haW54.lt
 refine t_field underlying131 rfl sizeOf103 (4) rfl rfl rfl rfl ?_
 have B60 := (B40.kx u57)
 refine t_st (vs := [.slice aoW54 ((insS (lngS x.t) l).length) cW54]) sizeOf103 rfl rfl rfl B60 rfl rfl rfl rfl (fun w61 sw61 B63 u62 => ?_)
 have zu62 := u62.size
 have B63 : Blk w61 bk7 131 [.int .i64 f, .int .i64 u, .slice ap np cp, .slice ad nd cd, .slice aoW54 ((insS (lngS x.t) l).length) cW54] := B63
 refine t_nil' (hK53 _ _ (c_seq fun K65 hK65 => (c_drawnM follows (fun i => i = bk17) (.look 0 (.look 1 (.look 2 (.look 3 (.act 4 (.act 5 (.look 6 .done) .stop) .stop))))) (by kernel_rfl) fun w66 u67 => ?_)))
 have zu67 := u67.size
 have B69 := (B63.kx u67)
 refine y_loadN (vs := [.int .i64 f, .int .i64 u, .slice ap np cp, .slice ad nd cd, .slice aoW54 ((insS (lngS x.t) l).length) cW54]) isAgg131 sizeOf131 rfl rfl rfl (B69.at.sub 0 5) rfl (by show ¬ (bk7 = bk17); first | omega | assumption) ?_
 have B70 := (((((((((B4.kx u10).kx u15).kx u20).kx u26).kx u32).keep u35 (by omega)).kx u57).keep u62 (by omega)).kx u67)
 refine y_loadN (vs := [.int .i64 r.rest, .int .i64 r.span, .int .i64 r.work, .int .i64 r.week, .int .i64 r.ww]) isAgg100 sizeOf100 rfl rfl rfl (B70.at.sub 0 5) rfl (by show ¬ (bk2 = bk17); first | omega | assumption) (y_field underlying131 rfl sizeOf103 (4) rfl rfl rfl rfl (y_load isAgg103 rfl rfl rfl (B69.get rfl) (by show ¬ (bk7 = bk17); first | omega | assumption) (s_do ?_)))
 have D71 := ((haW54.keep u62 (fun hb => show ¬ (gW54 = bk7) by first | omega | assumption)).kE u67)
 refine t_call own49 rfl rfl rfl rfl (keeps_c r (insS (lngS x.t) l) aoW54 gW54 0 cW54 _ (D71.sl (fun _ => rfl)) (by rw [ins_len]; omega) (ins_ok (leg_sp hx) hok) hr) (fun v72 w73 r75 => ?_)
 obtain ⟨rfl, u74⟩ := r75
 have zu74 := u74.size
 refine s_next ((Upd.refl _ _).nx u74) (s_do ?_)
 have B77 := (((((((B19.kx u26).kx u32).keep u35 (by omega)).kx u57).keep u62 (by omega)).kx u67).kx u74)
 refine t_st (vs := [.int .i64 f, .int .i64 u, .slice ap np cp, .slice ad nd cd, .slice aoW54 ((insS (lngS x.t) l).length) cW54]) sizeOf131 rfl rfl rfl B77 rfl rfl rfl rfl (fun w78 sw78 B80 u79 => ?_)
 have zu79 := u79.size
 have B80 : Blk w78 bk17 131 [.int .i64 f, .int .i64 u, .slice ap np cp, .slice ad nd cd, .slice aoW54 ((insS (lngS x.t) l).length) cW54] := B80
 refine s_next ((Upd.refl _ _).next u79 (fun i hi (h : i = bk17) => show w66.heap.size ≤ i ∨ (i = bk17) by first | omega | exact .inr h)) (y_assign rfl rfl rfl (s_nil (hK65 _ _ (c_ret (f_ret2 (v1 := .agg #[.int .i64 f, .int .i64 u, .slice ap np cp, .slice ad nd cd, .slice aoW54 ((insS (lngS x.t) l).length) cW54]) (v2 := .bool (decide (brokP r (insS (lngS x.t) l) = 0))) results67 ⟨_, _, rfl, run_loadVarN (vs := [.int .i64 f, .int .i64 u, .slice ap np cp, .slice ad nd cd, .slice aoW54 ((insS (lngS x.t) l).length) cW54]) isAgg131 sizeOf131 rfl (B80.at.sub 0 5)⟩ rfl ?_)))))
 have D82 := ((D71.kE u74).keep u79 (fun hb => show ¬ (gW54 = bk17) by first | omega | assumption))
 have hwn : winM f u x = true := by unfold winM; simp only [decide_eq_true_eq]; show f ≤ x.t.bl ∧ x.t.eh ≤ u; have e1 : (lngS x.t).b = x.t.bl := rfl; have e2 : (lngS x.t).e = x.t.eh := rfl; omega
 obtain ⟨g9, hac9, hfr9⟩ := (D82).lower' (base' := base) (by omega) hb0
 exact ⟨⟨_, g9, _, _, by unfold canB; rw [hwn]; rfl, by unfold canT; rw [hwn]; rfl, hac9, fun _ h => by have := hfr9 h; omega⟩, (((((E37.nx u57).next u62 (fun i hi h => by omega)).nx u67).nx u74).next u79 (fun i hi h => by omega))⟩

theorem plt1_c (p : Ppr) (x : Leg) (b : Nat) (w0 : World) (hb : Blk w0 b 68 (encLeg x)) :
    CallsV Tryz.prog 96 [.agg #[.int .i64 p.r, .int .i64 p.u], .pointer (some ⟨b, 0, none⟩)] w0 (fun v w' => v = .bool (decide (p.r = x.r ∧ x.t.eh ≤ p.u)) ∧ Ext w0 w') := by
 refine f_enter (N := 18) func96 rfl rfl rfl (c_seq fun K1 hK1 => (c_region (t_box (cs := [.int .i64 p.r, .int .i64 p.u]) rfl rfl rfl rfl (fun bk2 w3 ebk2 sbk2 B4 u5 => ?_))))
 have zu5 := u5.size
 have E6 := (Upd.refl (fun _ => False) w0).nx u5
 refine t_assign rfl rfl rfl (t_nil' (hK1 _ _ (c_seq fun K7 hK7 => (c_region (t_field underlying136 rfl sizeOf3 (0) rfl rfl rfl rfl (t_load isAgg3 rfl rfl rfl (B4.get rfl) (t_field underlying68 rfl sizeOf3 (0) rfl rfl rfl rfl ?_)))))))
 have B8 := (hb.kx u5)
 refine t_load isAgg3 rfl rfl rfl (B8.get rfl) (t_cmp rfl rfl rfl rfl rfl (t_move rfl rfl rfl (t_splitp 9 rfl (fun g9 => ?_) (fun g9 => ?_))))
 ·
  refine t_field underlying136 rfl sizeOf3 (1) rfl rfl rfl rfl (t_load isAgg3 rfl rfl rfl (B4.get rfl) (t_field underlying68 rfl sizeOf37 (1) rfl rfl rfl rfl (t_field underlying37 rfl sizeOf35 (3) rfl rfl rfl rfl (t_field underlying35 rfl sizeOf3 (4) rfl rfl rfl rfl (t_load isAgg3 rfl rfl rfl (B8.get rfl) (t_cmp rfl rfl rfl rfl rfl (t_pick_t rfl rfl rfl rfl (t_assign rfl rfl rfl (t_nil' (hK7 _ _ (c_ret (f_ret1 (v := .bool (decide (x.t.eh ≤ p.u))) results96 rfl ?_))))))))))))
  exact ⟨congrArg Value.bool (by rw [Bool.eq_iff_iff]; simp only [decide_eq_true_eq] <;> grind), E6⟩
 refine t_skip rfl rfl rfl (t_skip rfl rfl rfl (t_skip rfl rfl rfl (t_skip rfl rfl rfl (t_skip rfl rfl rfl (t_skip rfl rfl rfl (t_skip rfl rfl rfl (t_pick_f rfl rfl rfl rfl (t_assign rfl rfl rfl (t_nil' (hK7 _ _ (c_ret (f_ret1 (v := .bool false) results96 rfl ?_))))))))))))
 exact ⟨congrArg Value.bool (by rw [Bool.eq_iff_iff]; simp only [decide_eq_true_eq] <;> grind), E6⟩

theorem pilots_c (f u : Int) (ps : List Ppr) (ap : Option Addr) (bp op cp : Nat) (ad : Option Addr) (nd cd : Nat) (at_ : Option Addr) (nt ct : Nat) (x : Leg) (w0 : World) (hp : Sl encPpr 2 w0 ap bp op ps) (hpl : ps.length ≤ 1000000) :
    CallsV Tryz.prog 68 [.agg #[.int .i64 f, .int .i64 u, .slice ap ps.length cp, .slice ad nd cd, .slice at_ nt ct], .agg #[.int .i64 x.r, .int .i64 x.t.bl, .int .i64 x.t.bh, .int .i64 x.t.el, .int .i64 x.t.eh, .int .i64 x.h, .int .i64 x.p]] w0 (fun v w' => v = .bool (pltP ps x) ∧ Ext w0 w') := by
 refine f_enter (N := 10) func68 rfl rfl rfl (c_seq fun K1 hK1 => (c_region (t_box (cs := [.int .i64 f, .int .i64 u, .slice ap ps.length cp, .slice ad nd cd, .slice at_ nt ct]) rfl rfl rfl rfl (fun bk2 w3 ebk2 sbk2 B4 u5 => ?_))))
 have zu5 := u5.size
 refine t_box (cs := [.int .i64 x.r, .int .i64 x.t.bl, .int .i64 x.t.bh, .int .i64 x.t.el, .int .i64 x.t.eh, .int .i64 x.h, .int .i64 x.p]) rfl rfl rfl rfl (fun bk7 w8 ebk7 sbk7 B9 u10 => ?_)
 have zu10 := u10.size
 have E11 := ((Upd.refl (fun _ => False) w0).nx u5).nx u10
 refine t_assign rfl rfl rfl (t_nil' (hK1 _ _ (c_seq fun K12 hK12 => (c_region (t_field underlying131 rfl sizeOf79 (0) rfl rfl rfl rfl (t_field underlying79 rfl sizeOf77 (2) rfl rfl rfl rfl ?_))))))
 have B13 := (B4.kx u10)
 refine t_load isAgg77 rfl rfl rfl (B13.get rfl) (t_mkfunc (vs := []) (us := [.pointer (some ⟨bk7, 0, none⟩)]) rfl rfl rfl rfl (t_call own93 rfl rfl rfl rfl (containsP_c encPpr (fun _ => rfl) (fun p => decide (p.r = x.r ∧ x.t.eh ≤ p.u)) 96 [.pointer (some ⟨bk7, 0, none⟩)] ps ap bp op cp _ own96 (fun p _ w v => plt1_c p x bk7 w (B9.keep v (fun h => h))) (hp.keep E11 (fun _ h => h)) hpl) (fun v14 w15 r17 => ?_)))
 obtain ⟨rfl, u16⟩ := r17
 have zu16 := u16.size
 refine t_assign rfl rfl rfl (t_nil' (hK12 _ _ (c_ret (f_ret1 (v := .bool (pltP ps x)) results68 rfl ?_))))
 exact ⟨rfl, (E11.nx u16)⟩

end Go.Proofs.YtagmodjadmecdaaGreat
