/-
  Part 6 of the proof: contracts and plain laws. Conditions: none.
-/
import Derived.Test.YtagmodjadmecdaaGreatJK5
namespace Go.Proofs.YtagmodjadmecdaaGreat
open Go Go.RowKit Tryz

structure Ppr where
  r : Int
  u : Int
instance : Inhabited Ppr := ⟨⟨default, default⟩⟩
structure Leg where
  r : Int
  t : Dty
  h : Int
  p : Int
instance : Inhabited Leg := ⟨⟨default, default, default, default⟩⟩
structure Slr where
  f : Int
  u : Int
  ps : List Ppr
  ds : List Dty
instance : Inhabited Slr := ⟨⟨default, default, default, default⟩⟩
def encPpr (x : Ppr) : List Value := [.int .i64 x.r, .int .i64 x.u]
def encLeg (x : Leg) : List Value := [.int .i64 x.r, .int .i64 x.t.bl, .int .i64 x.t.bh, .int .i64 x.t.el, .int .i64 x.t.eh, .int .i64 x.h, .int .i64 x.p]
def okPpr (p : Ppr) : Bool := decide ((0 ≤ p.r ∧ p.r ≤ 19) ∧ (0 ≤ p.u ∧ p.u ≤ 20160))
def okLeg (x : Leg) : Bool := decide ((0 ≤ x.r ∧ x.r ≤ 19) ∧ okDty x.t = true ∧ (1 ≤ x.h ∧ x.h ≤ 3) ∧ (0 ≤ x.p ∧ x.p ≤ x.h))
def okSlr (s : Slr) : Bool := decide (((0 ≤ s.f ∧ s.f ≤ 20160) ∧ (0 ≤ s.u ∧ s.u ≤ 20160)) ∧ s.f ≤ s.u ∧ s.ps.length ≤ 10 ∧ (∀ p ∈ s.ps, okPpr p = true) ∧ chkD s.ds = 0)
def winM (f u : Int) (x : Leg) : Bool := decide (f ≤ x.t.bl ∧ x.t.eh ≤ u)
def canB (r : Rul) (f u : Int) (l : List Sp) (x : Leg) : Bool := winM f u x && decide (brokP r (insS (lngS x.t) l) = 0)
def canT (f u : Int) (l : List Sp) (x : Leg) : List Sp := if winM f u x = true then insS (lngS x.t) l else l
def pltP (ps : List Ppr) (x : Leg) : Bool := ps.any fun p => decide (p.r = x.r ∧ x.t.eh ≤ p.u)
theorem chkD_ok {l : List Dty} (h : chkD l = 0) : l.length ≤ 20 ∧ ∀ d ∈ l, okDty d = true := by
  unfold chkD at h
  by_cases h2 : 20 < l.length
  · rw [if_pos h2] at h; cases h
  · rw [if_neg h2] at h
    by_cases h3 : (l.any fun d => !okDty d) = true
    · rw [if_pos h3] at h; cases h
    · refine ⟨by omega, fun d hd => ?_⟩
      cases hq : okDty d with
      | true => rfl
      | false => exact absurd (List.any_eq_true.2 ⟨d, hd, by simp [hq]⟩) h3
theorem okSlr_ok {s : Slr} (h : okSlr s = true) : ((0 ≤ s.f ∧ s.f ≤ 20160) ∧ (0 ≤ s.u ∧ s.u ≤ 20160)) ∧ s.ps.length ≤ 10 ∧ s.ds.length ≤ 20 ∧ ∀ d ∈ s.ds, okDty d = true := by
  simp only [okSlr, decide_eq_true_eq] at h
  exact ⟨h.1, h.2.2.1, chkD_ok h.2.2.2.2⟩
theorem okLeg_ok {x : Leg} (h : okLeg x = true) : okDty x.t = true ∧ (1 ≤ x.h ∧ x.h ≤ 3) ∧ (0 ≤ x.p ∧ x.p ≤ x.h) := by
  simp only [okLeg, decide_eq_true_eq] at h
  exact h.2
theorem leg_sp {x : Leg} (h : okLeg x = true) : OkSp (lngS x.t) := lng_ok (okLeg_ok h).1
theorem Acc.lower' {α : Type} {enc : α → List Value} {k : Nat} {e : TypeId} {base base' : Nat} {w : World} {ao : Option Addr} {g cap : Nat} {xs : List α} (h : Acc enc k e base w ao g cap xs) (hb : base' ≤ base) (h0 : 0 < base') : ∃ g', Acc enc k e base' w ao g' cap xs ∧ (base' ≤ g' → base ≤ g') := by
  rcases h.at_ with ⟨h1, h2, h3, h4⟩ | ⟨h1, h2, h3⟩
  · exact ⟨0, ⟨by have := h.lt; omega, .inl ⟨h1, h2, h3, h0⟩⟩, fun q => by omega⟩
  · exact ⟨g, ⟨h.lt, .inr ⟨h1, by omega, h3⟩⟩, fun _ => h2⟩
def MayR (r : Rul) (s : Slr) (x : Leg) : Bool := canB r s.f s.u (srtS (s.ds.map lngS)) x
theorem own64 : Own Tryz.prog 64 := ⟨Tryz.f64, func64, by kernel_rfl, by kernel_rfl⟩
theorem own65 : Own Tryz.prog 65 := ⟨Tryz.f65, func65, by kernel_rfl, by kernel_rfl⟩
theorem own66 : Own Tryz.prog 66 := ⟨Tryz.f66, func66, by kernel_rfl, by kernel_rfl⟩
theorem own67 : Own Tryz.prog 67 := ⟨Tryz.f67, func67, by kernel_rfl, by kernel_rfl⟩
theorem own68 : Own Tryz.prog 68 := ⟨Tryz.f68, func68, by kernel_rfl, by kernel_rfl⟩
theorem own93 : Own Tryz.prog 93 := ⟨Tryz.f93, func93, by kernel_rfl, by kernel_rfl⟩
theorem own94 : Own Tryz.prog 94 := ⟨Tryz.f94, func94, by kernel_rfl, by kernel_rfl⟩
theorem own96 : Own Tryz.prog 96 := ⟨Tryz.f96, func96, by kernel_rfl, by kernel_rfl⟩
theorem own113 : Own Tryz.prog 113 := ⟨Tryz.f113, func113, by kernel_rfl, by kernel_rfl⟩

theorem indexP_c {α : Type} [Inhabited α] (enc : α → List Value) (hk : ∀ x, (enc x).length = 2) (p : α → Bool) (fv : FuncId) (caps : List Value) (xs : List α) (ao : Option Addr) (b o cap : Nat) (w0 : World) (ho : Own Tryz.prog fv) (hp : ∀ x ∈ xs, ∀ w, Ext w0 w → CallsV Tryz.prog fv ([.agg (enc x).toArray] ++ caps) w fun v w' => v = .bool (p x) ∧ Ext w w') (hs : Sl enc 2 w0 ao b o xs) (hl : xs.length ≤ 1000000) :
    CallsV Tryz.prog 113 [.slice ao xs.length cap, .func (.func fv) #[] (caps).toArray] w0 (fun v w' => (∃ n : Int, v = .int .i64 n ∧ decide (0 ≤ n) = xs.any p) ∧ Ext w0 w') := by
 refine f_enter (N := 19) func113 rfl rfl rfl (c_seq fun K1 hK1 => (c_region (t_assign rfl rfl rfl (t_nil' (hK1 _ _ (c_seq fun K2 hK2 => (c_seq fun K3 hK3 => (c_region (t_move rfl rfl rfl (t_len underlying77 rfl rfl rfl rfl (t_move rfl rfl rfl (t_nil' (hK3 _ _ (c_block (c_loop (γ := Nat) (fun k => [(0, .slice ao xs.length cap), (1, .func (.func fv) #[] (caps).toArray), (7, .int .i64 (xs.length : Int)), (8, .int .i64 (k : Int))]) (fun k w => Upd (fun _ => False) w0 w ∧ (k ≤ xs.length) ∧ ((xs.take k).any p = false)) (fun k => xs.length - k) 0 ⟨rfl, rfl, rfl, rfl, trivial⟩ ⟨Upd.refl _ _, Nat.zero_le _, (by simp)⟩ ?_)))))))))))))))
 intro k w5 hW K4 hK4
 obtain ⟨u6, I7, I8⟩ := hW
 have zu6 := u6.size
 have E9 := (Upd.refl (fun _ => False) w0).nx u6
 have hle := I7; clear I7
 have hnot := I8; clear I8
 refine c_seq fun K10 hK10 => (c_region (t_cmp rfl rfl rfl rfl rfl (t_nil' (hK10 _ _ (c_seq fun K11 hK11 => (c_condp rfl (fun g9 => ?_) (fun g9 => ?_)))))))
 ·
  refine c_skip (hK11 _ _ (c_seq fun K12 hK12 => (c_block (c_seq fun K13 hK13 => (c_region (t_move rfl rfl rfl (t_assign rfl rfl rfl (t_nil' (hK13 _ _ (c_seq fun K14 hK14 => (c_region (t_move rfl rfl rfl (t_move rfl rfl rfl (t_move rfl rfl rfl ?_))))))))))))))
  have i15 : k < xs.length := (by omega)
  refine t_index (j := k) underlying77 sizeOf136 rfl rfl rfl rfl ((hs.keep E9 (fun _ h => h)).addr (by omega)) rfl i15 (t_loadN (vs := enc (nth xs k)) isAgg136 sizeOf136 rfl rfl rfl ((hs.keep E9 (fun _ h => h)).at_ k (by omega)) (hk _) (t_call (fs := []) (cs := caps) ho rfl rfl rfl rfl (hp (nth xs k) (nth_mem (by omega)) _ E9) (fun v16 w17 r19 => ?_)))
  obtain ⟨rfl, u18⟩ := r19
  have zu18 := u18.size
  refine t_nil' (hK14 _ _ (c_cond rfl (fun g16 => ?_) (fun g16 => ?_)))
  ·
   refine c_seq fun K21 hK21 => (c_region (t_move rfl rfl rfl (t_assign rfl rfl rfl (t_nil' (hK21 _ _ (c_ret (f_ret1 (v := .int .i64 (k : Int)) results113 rfl ?_)))))))
   exact ⟨⟨_, rfl, any_hit (by omega) g16⟩, (E9.nx u18)⟩
  refine c_skip (hK12 _ _ (c_region (t_ari rfl rfl rfl rfl rfl (by omega) (t_move rfl rfl rfl (t_nil' ?_)))))
  exact hK4 (k + 1) _ _ (by omega) ⟨rfl, rfl, rfl, rfl, trivial⟩ ⟨(u6.nx u18), (by omega), (any_snoc (by omega) hnot g16)⟩
 refine c_exit (hK2 _ _ (c_seq fun K22 hK22 => (c_region (t_assign rfl rfl rfl (t_nil' (hK22 _ _ (c_ret (f_ret1 (v := .int .i64 (-1)) results113 rfl ?_))))))))
 exact ⟨⟨_, rfl, any_none (by omega) hnot⟩, E9⟩

theorem containsP_c {α : Type} [Inhabited α] (enc : α → List Value) (hk : ∀ x, (enc x).length = 2) (p : α → Bool) (fv : FuncId) (caps : List Value) (xs : List α) (ao : Option Addr) (b o cap : Nat) (w0 : World) (ho : Own Tryz.prog fv) (hp : ∀ x ∈ xs, ∀ w, Ext w0 w → CallsV Tryz.prog fv ([.agg (enc x).toArray] ++ caps) w fun v w' => v = .bool (p x) ∧ Ext w w') (hs : Sl enc 2 w0 ao b o xs) (hl : xs.length ≤ 1000000) :
    CallsV Tryz.prog 93 [.slice ao xs.length cap, .func (.func fv) #[] (caps).toArray] w0 (fun v w' => v = .bool (xs.any p) ∧ Ext w0 w') := by
 refine f_enter (N := 9) func93 rfl rfl rfl (c_seq fun K1 hK1 => (c_region (t_assign rfl rfl rfl (t_nil' (hK1 _ _ (c_seq fun K2 hK2 => (c_region (t_move rfl rfl rfl (t_move rfl rfl rfl (t_call own113 rfl rfl rfl rfl (indexP_c enc hk p fv caps xs ao b o cap _ ho hp hs hl) (fun v3 w4 r6 => ?_)))))))))))
 obtain ⟨⟨n, rfl, hn⟩, u5⟩ := r6
 have zu5 := u5.size
 refine t_cmp rfl rfl rfl rfl rfl (t_assign rfl rfl rfl (t_nil' (hK2 _ _ (c_ret (f_ret1 (v := .bool (decide (0 ≤ n))) results93 rfl ?_)))))
 exact ⟨by rw [hn], ((Upd.refl (fun _ => False) w0).nx u5)⟩

theorem badPpr_c (p : Ppr) (w0 : World) :
    CallsV Tryz.prog 94 [.agg #[.int .i64 p.r, .int .i64 p.u]] w0 (fun v w' => v = .bool (!okPpr p) ∧ Ext w0 w') := by
 refine f_enter (N := 15) func94 rfl rfl rfl (c_seq fun K1 hK1 => (c_region (t_box (cs := [.int .i64 p.r, .int .i64 p.u]) rfl rfl rfl rfl (fun bk2 w3 ebk2 sbk2 B4 u5 => ?_))))
 have zu5 := u5.size
 refine t_assign rfl rfl rfl (t_nil' (hK1 _ _ (c_seq fun K7 hK7 => (c_region (t_field underlying136 rfl sizeOf3 (0) rfl rfl rfl rfl (t_load isAgg3 rfl rfl rfl (B4.get rfl) (t_bslice (ps := [(0, .int .i64 p.r)]) (cs := [.int .i64 p.r]) (e := 3) rfl rfl ⟨rfl, rfl⟩ (fun w => by kernel_rfl) (fun bk8 w9 ebk8 sbk8 B10 u11 => ?_))))))))
 have zu11 := u11.size
 refine t_call own43 rfl rfl rfl rfl (within1_v 0 19 p.r _ _ _ B10) (fun v13 w14 r16 => ?_)
 obtain ⟨rfl, u15⟩ := r16
 have zu15 := u15.size
 have E17 := (((Upd.refl (fun _ => False) w0).nx u5).nx u11).nx u15
 refine t_notp rfl rfl rfl (t_move rfl rfl rfl (t_splitp 8 rfl (fun g8 => ?_) (fun g8 => ?_)))
 ·
  refine t_skip rfl rfl rfl (t_skip rfl rfl rfl (t_skip rfl rfl rfl (t_skip rfl rfl rfl (t_skip rfl rfl rfl (t_pick_t rfl rfl rfl rfl (t_assign rfl rfl rfl (t_nil' (hK7 _ _ (c_ret (f_ret1 (v := .bool true) results94 rfl ?_))))))))))
  exact ⟨congrArg Value.bool (by rw [Bool.eq_iff_iff]; simp only [okPpr, Bool.not_eq_eq_eq_not] <;> grind), E17⟩
 refine t_field underlying136 rfl sizeOf3 (1) rfl rfl rfl rfl ?_
 have B18 := ((B4.kx u11).kx u15)
 refine t_load isAgg3 rfl rfl rfl (B18.get rfl) (t_bslice (ps := [(0, .int .i64 p.u)]) (cs := [.int .i64 p.u]) (e := 3) rfl rfl ⟨rfl, rfl⟩ (fun w => by kernel_rfl) (fun bk19 w20 ebk19 sbk19 B21 u22 => ?_))
 have zu22 := u22.size
 refine t_call own43 rfl rfl rfl rfl (within1_v 0 20160 p.u _ _ _ B21) (fun v24 w25 r27 => ?_)
 obtain ⟨rfl, u26⟩ := r27
 have zu26 := u26.size
 refine t_notp rfl rfl rfl (t_pick_f rfl rfl rfl rfl (t_assign rfl rfl rfl (t_nil' (hK7 _ _ (c_ret (f_ret1 (v := .bool (decide (¬ ((0 ≤ p.u ∧ p.u ≤ 20160))))) results94 rfl ?_))))))
 exact ⟨congrArg Value.bool (by rw [Bool.eq_iff_iff]; simp only [okPpr, decide_eq_true_eq, Bool.not_eq_eq_eq_not] <;> grind), ((E17.nx u22).nx u26)⟩

theorem isSailor_c (f u : Int) (ps : List Ppr) (ap : Option Addr) (bp op cp : Nat) (ds : List Dty) (ad : Option Addr) (bd od cd : Nat) (w0 : World) (hp : Sl encPpr 2 w0 ap bp op ps) (hpl : ps.length ≤ 1000000) (hd : Sl encDty 4 w0 ad bd od ds) (hdl : ds.length ≤ 1000000) :
    CallsV Tryz.prog 64 [.agg #[.int .i64 f, .int .i64 u, .slice ap ps.length cp, .slice ad ds.length cd]] w0 (fun v w' => v = .bool (okSlr ⟨f, u, ps, ds⟩) ∧ Ext w0 w') := by
 refine f_enter (N := 36) func64 rfl rfl rfl (c_seq fun K1 hK1 => (c_region (t_box (cs := [.int .i64 f, .int .i64 u, .slice ap ps.length cp, .slice ad ds.length cd]) rfl rfl rfl rfl (fun bk2 w3 ebk2 sbk2 B4 u5 => ?_))))
 have zu5 := u5.size
 have E6 := (Upd.refl (fun _ => False) w0).nx u5
 refine t_assign rfl rfl rfl (t_nil' (hK1 _ _ (c_seq fun K7 hK7 => (c_region (t_field underlying79 rfl sizeOf77 (2) rfl rfl rfl rfl (t_load isAgg77 rfl rfl rfl (B4.get rfl) (t_call own93 rfl rfl rfl rfl (containsP_c encPpr (fun _ => rfl) (fun x => !okPpr x) 94 [] ps ap bp op cp _ own94 (fun x _ w _ => badPpr_c x w) (hp.keep E6 (fun _ h => h)) hpl) (fun v8 w9 r11 => ?_))))))))
 obtain ⟨rfl, u10⟩ := r11
 have zu10 := u10.size
 refine t_not rfl rfl rfl (t_assign rfl rfl rfl (t_nil' (hK7 _ _ (c_seq fun K13 hK13 => (c_region (t_field underlying79 rfl sizeOf3 (0) rfl rfl rfl rfl ?_))))))
 have B14 := (B4.kx u10)
 refine t_load isAgg3 rfl rfl rfl (B14.get rfl) (t_field underlying79 rfl sizeOf3 (1) rfl rfl rfl rfl (t_load isAgg3 rfl rfl rfl (B14.get rfl) (t_bslice (ps := [(0, .int .i64 f), (1, .int .i64 u)]) (cs := [.int .i64 f, .int .i64 u]) (e := 3) rfl rfl ⟨rfl, rfl⟩ (fun w => by kernel_rfl) (fun bk15 w16 ebk15 sbk15 B17 u18 => ?_))))
 have zu18 := u18.size
 refine t_call own43 rfl rfl rfl rfl (within2_v 0 20160 f u _ _ _ B17) (fun v20 w21 r23 => ?_)
 obtain ⟨rfl, u22⟩ := r23
 have zu22 := u22.size
 have E24 := ((E6.nx u10).nx u18).nx u22
 refine t_move rfl rfl rfl (t_splitp 14 rfl (fun g14 => ?_) (fun g14 => ?_))
 ·
  refine t_field underlying79 rfl sizeOf3 (0) rfl rfl rfl rfl ?_
  have B25 := ((B14.kx u18).kx u22)
  refine t_load isAgg3 rfl rfl rfl (B25.get rfl) (t_field underlying79 rfl sizeOf3 (1) rfl rfl rfl rfl (t_load isAgg3 rfl rfl rfl (B25.get rfl) (t_cmp rfl rfl rfl rfl rfl (t_pick_t rfl rfl rfl rfl (t_move rfl rfl rfl (t_splitp 21 rfl (fun g21 => ?_) (fun g21 => ?_)))))))
  ·
   refine t_field underlying79 rfl sizeOf77 (2) rfl rfl rfl rfl (t_load isAgg77 rfl rfl rfl (B25.get rfl) (t_len underlying77 rfl rfl rfl rfl (t_cmp rfl rfl rfl rfl rfl (t_pick_t rfl rfl rfl rfl (t_move rfl rfl rfl (t_splitp 27 rfl (fun g27 => ?_) (fun g27 => ?_)))))))
   ·
    refine t_move rfl rfl rfl (t_pick_t rfl rfl rfl rfl (t_move rfl rfl rfl (t_split 30 rfl (fun g30 => ?_) (fun g30 => ?_))))
    ·
     refine t_field underlying79 rfl sizeOf24 (3) rfl rfl rfl rfl (t_load isAgg24 rfl rfl rfl (B25.get rfl) (t_call own76 rfl rfl rfl rfl (checkDuties_c ds ad bd od cd _ (hd.keep E24 (fun _ h => h)) hdl) (fun v26 w27 r29 => ?_)))
     obtain ⟨rfl, u28⟩ := r29
     have zu28 := u28.size
     refine t_cmp rfl rfl rfl rfl rfl (t_pick_t rfl rfl rfl rfl (t_assign rfl rfl rfl (t_nil' (hK13 _ _ (c_ret (f_ret1 (v := .bool (decide ((chkD ds) = 0))) results64 rfl ?_))))))
     exact ⟨congrArg Value.bool (by
       have hany : (!(ps.any fun p => !okPpr p)) = decide (∀ p ∈ ps, okPpr p = true) := by rw [Bool.eq_iff_iff]; simp
       rw [Bool.eq_iff_iff]; simp only [okSlr, decide_eq_true_eq] <;> grind), (E24.nx u28)⟩
    refine t_skip rfl rfl rfl (t_skip rfl rfl rfl (t_skip rfl rfl rfl (t_skip rfl rfl rfl (t_pick_f rfl rfl rfl rfl (t_assign rfl rfl rfl (t_nil' (hK13 _ _ (c_ret (f_ret1 (v := .bool false) results64 rfl ?_)))))))))
    exact ⟨congrArg Value.bool (by
      have hany : (!(ps.any fun p => !okPpr p)) = decide (∀ p ∈ ps, okPpr p = true) := by rw [Bool.eq_iff_iff]; simp
      rw [Bool.eq_iff_iff]; simp only [okSlr, decide_eq_true_eq] <;> grind), E24⟩
   refine t_skip rfl rfl rfl (t_pick_f rfl rfl rfl rfl (t_move rfl rfl rfl (t_skip rfl rfl rfl (t_skip rfl rfl rfl (t_skip rfl rfl rfl (t_skip rfl rfl rfl (t_pick_f rfl rfl rfl rfl (t_assign rfl rfl rfl (t_nil' (hK13 _ _ (c_ret (f_ret1 (v := .bool false) results64 rfl ?_))))))))))))
   exact ⟨congrArg Value.bool (by
     have hany : (!(ps.any fun p => !okPpr p)) = decide (∀ p ∈ ps, okPpr p = true) := by rw [Bool.eq_iff_iff]; simp
     rw [Bool.eq_iff_iff]; simp only [okSlr, decide_eq_true_eq] <;> grind), E24⟩
  refine t_skip rfl rfl rfl (t_skip rfl rfl rfl (t_skip rfl rfl rfl (t_skip rfl rfl rfl (t_pick_f rfl rfl rfl rfl (t_move rfl rfl rfl (t_skip rfl rfl rfl (t_pick_f rfl rfl rfl rfl (t_move rfl rfl rfl (t_skip rfl rfl rfl (t_skip rfl rfl rfl (t_skip rfl rfl rfl (t_skip rfl rfl rfl (t_pick_f rfl rfl rfl rfl (t_assign rfl rfl rfl (t_nil' (hK13 _ _ (c_ret (f_ret1 (v := .bool false) results64 rfl ?_))))))))))))))))))
  exact ⟨congrArg Value.bool (by
    have hany : (!(ps.any fun p => !okPpr p)) = decide (∀ p ∈ ps, okPpr p = true) := by rw [Bool.eq_iff_iff]; simp
    rw [Bool.eq_iff_iff]; simp only [okSlr, decide_eq_true_eq] <;> grind), E24⟩
 refine t_skip rfl rfl rfl (t_skip rfl rfl rfl (t_skip rfl rfl rfl (t_skip rfl rfl rfl (t_skip rfl rfl rfl (t_pick_f rfl rfl rfl rfl (t_move rfl rfl rfl (t_skip rfl rfl rfl (t_skip rfl rfl rfl (t_skip rfl rfl rfl (t_skip rfl rfl rfl (t_pick_f rfl rfl rfl rfl (t_move rfl rfl rfl (t_skip rfl rfl rfl (t_pick_f rfl rfl rfl rfl (t_move rfl rfl rfl (t_skip rfl rfl rfl (t_skip rfl rfl rfl (t_skip rfl rfl rfl (t_skip rfl rfl rfl (t_pick_f rfl rfl rfl rfl (t_assign rfl rfl rfl (t_nil' (hK13 _ _ ?_)))))))))))))))))))))))
 refine c_ret (f_ret1 (v := .bool false) results64 rfl ?_)
 exact ⟨congrArg Value.bool (by
   have hany : (!(ps.any fun p => !okPpr p)) = decide (∀ p ∈ ps, okPpr p = true) := by rw [Bool.eq_iff_iff]; simp
   rw [Bool.eq_iff_iff]; simp only [okSlr, decide_eq_true_eq] <;> grind), E24⟩

theorem isLeg_c (x : Leg) (w0 : World) :
    CallsV Tryz.prog 65 [.agg #[.int .i64 x.r, .int .i64 x.t.bl, .int .i64 x.t.bh, .int .i64 x.t.el, .int .i64 x.t.eh, .int .i64 x.h, .int .i64 x.p]] w0 (fun v w' => v = .bool (okLeg x) ∧ Ext w0 w') := by
 refine f_enter (N := 26) func65 rfl rfl rfl (c_seq fun K1 hK1 => (c_region (t_box (cs := [.int .i64 x.r, .int .i64 x.t.bl, .int .i64 x.t.bh, .int .i64 x.t.el, .int .i64 x.t.eh, .int .i64 x.h, .int .i64 x.p]) rfl rfl rfl rfl (fun bk2 w3 ebk2 sbk2 B4 u5 => ?_))))
 have zu5 := u5.size
 refine t_assign rfl rfl rfl (t_nil' (hK1 _ _ (c_seq fun K7 hK7 => (c_region (t_field underlying68 rfl sizeOf3 (0) rfl rfl rfl rfl (t_load isAgg3 rfl rfl rfl (B4.get rfl) (t_bslice (ps := [(0, .int .i64 x.r)]) (cs := [.int .i64 x.r]) (e := 3) rfl rfl ⟨rfl, rfl⟩ (fun w => by kernel_rfl) (fun bk8 w9 ebk8 sbk8 B10 u11 => ?_))))))))
 have zu11 := u11.size
 refine t_call own43 rfl rfl rfl rfl (within1_v 0 19 x.r _ _ _ B10) (fun v13 w14 r16 => ?_)
 obtain ⟨rfl, u15⟩ := r16
 have zu15 := u15.size
 have E17 := (((Upd.refl (fun _ => False) w0).nx u5).nx u11).nx u15
 refine t_move rfl rfl rfl (t_splitp 7 rfl (fun g7 => ?_) (fun g7 => ?_))
 ·
  refine t_field underlying68 rfl sizeOf37 (1) rfl rfl rfl rfl ?_
  have B18 := ((B4.kx u11).kx u15)
  refine t_loadN (vs := [.int .i64 x.t.bl, .int .i64 x.t.bh, .int .i64 x.t.el, .int .i64 x.t.eh]) isAgg37 sizeOf37 rfl rfl rfl (B18.at.sub 1 4) rfl (t_call own95 rfl rfl rfl rfl (isDuty_c x.t _) (fun v19 w20 r22 => ?_))
  obtain ⟨rfl, u21⟩ := r22
  have zu21 := u21.size
  have E23 := E17.nx u21
  refine t_pick_t rfl rfl rfl rfl (t_move rfl rfl rfl (t_split 12 rfl (fun g12 => ?_) (fun g12 => ?_)))
  ·
   refine t_field underlying68 rfl sizeOf3 (5) rfl rfl rfl rfl ?_
   have B24 := (B18.kx u21)
   refine t_load isAgg3 rfl rfl rfl (B24.get rfl) (t_bslice (ps := [(0, .int .i64 x.h)]) (cs := [.int .i64 x.h]) (e := 3) rfl rfl ⟨rfl, rfl⟩ (fun w => by kernel_rfl) (fun bk25 w26 ebk25 sbk25 B27 u28 => ?_))
   have zu28 := u28.size
   refine t_call own43 rfl rfl rfl rfl (within1_v 1 3 x.h _ _ _ B27) (fun v30 w31 r33 => ?_)
   obtain ⟨rfl, u32⟩ := r33
   have zu32 := u32.size
   have E34 := (E23.nx u28).nx u32
   refine t_pick_t rfl rfl rfl rfl (t_move rfl rfl rfl (t_splitp 18 rfl (fun g18 => ?_) (fun g18 => ?_)))
   ·
    refine t_field underlying68 rfl sizeOf3 (5) rfl rfl rfl rfl ?_
    have B35 := ((B24.kx u28).kx u32)
    refine t_load isAgg3 rfl rfl rfl (B35.get rfl) (t_field underlying68 rfl sizeOf3 (6) rfl rfl rfl rfl (t_load isAgg3 rfl rfl rfl (B35.get rfl) (t_bslice (ps := [(0, .int .i64 x.p)]) (cs := [.int .i64 x.p]) (e := 3) rfl rfl ⟨rfl, rfl⟩ (fun w => by kernel_rfl) (fun bk36 w37 ebk36 sbk36 B38 u39 => ?_))))
    have zu39 := u39.size
    refine t_call own43 rfl rfl rfl rfl (within1_v 0 x.h x.p _ _ _ B38) (fun v41 w42 r44 => ?_)
    obtain ⟨rfl, u43⟩ := r44
    have zu43 := u43.size
    refine t_pick_t rfl rfl rfl rfl (t_assign rfl rfl rfl (t_nil' (hK7 _ _ (c_ret (f_ret1 (v := .bool (decide (0 ≤ x.p ∧ x.p ≤ x.h))) results65 rfl ?_)))))
    exact ⟨congrArg Value.bool (by rw [Bool.eq_iff_iff]; simp only [okLeg, decide_eq_true_eq] <;> grind), ((E34.nx u39).nx u43)⟩
   refine t_skip rfl rfl rfl (t_skip rfl rfl rfl (t_skip rfl rfl rfl (t_skip rfl rfl rfl (t_skip rfl rfl rfl (t_skip rfl rfl rfl (t_pick_f rfl rfl rfl rfl (t_assign rfl rfl rfl (t_nil' (hK7 _ _ (c_ret (f_ret1 (v := .bool false) results65 rfl ?_)))))))))))
   exact ⟨congrArg Value.bool (by rw [Bool.eq_iff_iff]; simp only [okLeg, decide_eq_true_eq] <;> grind), E34⟩
  refine t_skip rfl rfl rfl (t_skip rfl rfl rfl (t_skip rfl rfl rfl (t_skip rfl rfl rfl (t_pick_f rfl rfl rfl rfl (t_move rfl rfl rfl (t_skip rfl rfl rfl (t_skip rfl rfl rfl (t_skip rfl rfl rfl (t_skip rfl rfl rfl (t_skip rfl rfl rfl (t_skip rfl rfl rfl (t_pick_f rfl rfl rfl rfl (t_assign rfl rfl rfl (t_nil' (hK7 _ _ (c_ret (f_ret1 (v := .bool false) results65 rfl ?_)))))))))))))))))
  exact ⟨congrArg Value.bool (by rw [Bool.eq_iff_iff]; simp only [okLeg, decide_eq_true_eq] <;> grind), E23⟩
 refine t_skip rfl rfl rfl (t_skip rfl rfl rfl (t_skip rfl rfl rfl (t_pick_f rfl rfl rfl rfl (t_move rfl rfl rfl (t_skip rfl rfl rfl (t_skip rfl rfl rfl (t_skip rfl rfl rfl (t_skip rfl rfl rfl (t_pick_f rfl rfl rfl rfl (t_move rfl rfl rfl (t_skip rfl rfl rfl (t_skip rfl rfl rfl (t_skip rfl rfl rfl (t_skip rfl rfl rfl (t_skip rfl rfl rfl (t_skip rfl rfl rfl (t_pick_f rfl rfl rfl rfl (t_assign rfl rfl rfl (t_nil' (hK7 _ _ (c_ret (f_ret1 (v := .bool false) results65 rfl ?_))))))))))))))))))))))
 exact ⟨congrArg Value.bool (by rw [Bool.eq_iff_iff]; simp only [okLeg, decide_eq_true_eq] <;> grind), E17⟩

theorem board_c (f u : Int) (ap : Option Addr) (np cp : Nat) (ds : List Dty) (ad : Option Addr) (bd od cd : Nat) (w0 : World) (hd : Sl encDty 4 w0 ad bd od ds) (hdl : ds.length ≤ 100000) (hpos : 0 < w0.heap.size) :
    CallsV Tryz.prog 66 [.agg #[.int .i64 f, .int .i64 u, .slice ap np cp, .slice ad ds.length cd]] w0 (fun v w' => (∃ ao g c, v = .agg #[.int .i64 f, .int .i64 u, .slice ap np cp, .slice ad ds.length cd, .slice ao (srtS (ds.map lngS)).length c] ∧ Acc encSp 2 109 w0.heap.size w' ao g c (srtS (ds.map lngS))) ∧ Ext w0 w') := by
 refine f_enter (N := 8) func66 rfl rfl rfl (c_seq fun K1 hK1 => (c_region (t_box (cs := [.int .i64 f, .int .i64 u, .slice ap np cp, .slice ad ds.length cd]) rfl rfl rfl rfl (fun bk2 w3 ebk2 sbk2 B4 u5 => ?_))))
 have zu5 := u5.size
 refine t_alloc (cs := [.int .i64 0, .int .i64 0, .slice none 0 0, .slice none 0 0, .slice none 0 0]) zeroValue131 rfl rfl rfl (fun bk7 w8 ebk7 sbk7 B9 u10 => ?_)
 have zu10 := u10.size
 refine t_nil' (hK1 _ _ (c_seq fun K12 hK12 => (c_drawnM follows (fun i => i = bk7) (.look 0 (.look 1 (.look 2 (.act 3 (.look 4 (.act 5 .done .stop)) .stop)))) (by kernel_rfl) fun w13 u14 => ?_)))
 have zu14 := u14.size
 have E15 := (((Upd.refl (fun _ => False) w0).nx u5).nx u10).nx u14
 have B16 := ((B4.kx u10).kx u14)
 refine y_loadN (vs := [.int .i64 f, .int .i64 u, .slice ap np cp, .slice ad ds.length cd]) isAgg79 sizeOf79 rfl rfl rfl (B16.at.sub 0 4) rfl (by show ¬ (bk2 = bk7); first | omega | assumption) (y_field underlying79 rfl sizeOf24 (3) rfl rfl rfl rfl (y_load isAgg24 rfl rfl rfl (B16.get rfl) (by show ¬ (bk2 = bk7); first | omega | assumption) (s_do (t_call own47 rfl rfl rfl rfl (rosterL_c ds ad bd od cd _ (hd.keep E15 (fun _ h => h)) (by omega) (by omega)) (fun v18 w19 r21 => ?_)))))
 obtain ⟨⟨aoR17, gR17, cR17, rfl, haR17⟩, u20⟩ := r21
 have zu20 := u20.size
 have lt_gR17 := haR17.lt
 refine s_next ((Upd.refl _ _).nx u20) (y_build (ps := [(0, .agg #[.int .i64 f, .int .i64 u, .slice ap np cp, .slice ad ds.length cd]), (1, .slice aoR17 ((srtS (ds.map lngS)).length) cR17)]) (v := .agg #[.int .i64 f, .int .i64 u, .slice ap np cp, .slice ad ds.length cd, .slice aoR17 ((srtS (ds.map lngS)).length) cR17]) rfl rfl ⟨rfl, rfl⟩ (fun w => by kernel_rfl) (s_do ?_))
 have B23 := ((B9.kx u14).kx u20)
 refine t_st (vs := [.int .i64 f, .int .i64 u, .slice ap np cp, .slice ad ds.length cd, .slice aoR17 ((srtS (ds.map lngS)).length) cR17]) sizeOf131 rfl rfl rfl B23 rfl rfl rfl rfl (fun w24 sw24 B26 u25 => ?_)
 have zu25 := u25.size
 have B26 : Blk w24 bk7 131 [.int .i64 f, .int .i64 u, .slice ap np cp, .slice ad ds.length cd, .slice aoR17 ((srtS (ds.map lngS)).length) cR17] := B26
 refine s_next ((Upd.refl _ _).next u25 (fun i hi (h : i = bk7) => show w13.heap.size ≤ i ∨ (i = bk7) by first | omega | exact .inr h)) (s_nil (hK12 _ _ (c_ret (f_ret1 (v := .agg #[.int .i64 f, .int .i64 u, .slice ap np cp, .slice ad ds.length cd, .slice aoR17 ((srtS (ds.map lngS)).length) cR17]) results66 ⟨_, _, rfl, run_loadVarN (vs := [.int .i64 f, .int .i64 u, .slice ap np cp, .slice ad ds.length cd, .slice aoR17 ((srtS (ds.map lngS)).length) cR17]) isAgg131 sizeOf131 rfl (B26.at.sub 0 5)⟩ ?_))))
 have D28 := (haR17.keep u25 (fun hb => show ¬ (gR17 = bk7) by first | omega | assumption))
 obtain ⟨g9, hac9⟩ := (D28).lower (base' := w0.heap.size) (by omega) hpos
 exact ⟨⟨_, g9, _, rfl, hac9⟩, ((E15.nx u20).next u25 (fun i hi h => by omega))⟩

theorem can_c (r : Rul) (f u : Int) (ap : Option Addr) (np cp : Nat) (ad : Option Addr) (nd cd : Nat) (l : List Sp) (al : Option Addr) (gl cl : Nat) (base : Nat) (x : Leg) (w0 : World) (hl : Acc encSp 2 109 base w0 al gl cl l) (hll : l.length ≤ 100) (hs : Srt l) (hok : ∀ s ∈ l, OkSp s) (hr : okRul r = true) (hx : okLeg x = true) (hb0 : 0 < base) (hbw : base ≤ w0.heap.size) :
    CallsV Tryz.prog 67 [.agg #[.int .i64 r.rest, .int .i64 r.span, .int .i64 r.work, .int .i64 r.week, .int .i64 r.ww], .agg #[.int .i64 f, .int .i64 u, .slice ap np cp, .slice ad nd cd, .slice al l.length cl], .agg #[.int .i64 x.r, .int .i64 x.t.bl, .int .i64 x.t.bh, .int .i64 x.t.el, .int .i64 x.t.eh, .int .i64 x.h, .int .i64 x.p]] w0 (fun v w' => (∃ ao g c xs, v = .tuple #[.agg #[.int .i64 f, .int .i64 u, .slice ap np cp, .slice ad nd cd, .slice ao (List.length xs) c], .bool (canB r f u l x)] ∧ xs = canT f u l x ∧ Acc encSp 2 109 base w' ao g c xs ∧ (winM f u x = true → base ≤ g → w0.heap.size ≤ g)) ∧ Ext w0 w') := by
 refine f_enter (N := 37) func67 rfl rfl rfl (c_seq fun K1 hK1 => (c_region (t_box (cs := [.int .i64 r.rest, .int .i64 r.span, .int .i64 r.work, .int .i64 r.week, .int .i64 r.ww]) rfl rfl rfl rfl (fun bk2 w3 ebk2 sbk2 B4 u5 => ?_))))
 have zu5 := u5.size
 refine t_box (cs := [.int .i64 f, .int .i64 u, .slice ap np cp, .slice ad nd cd, .slice al l.length cl]) rfl rfl rfl rfl (fun bk7 w8 ebk7 sbk7 B9 u10 => ?_)
 have zu10 := u10.size
 refine t_box (cs := [.int .i64 x.r, .int .i64 x.t.bl, .int .i64 x.t.bh, .int .i64 x.t.el, .int .i64 x.t.eh, .int .i64 x.h, .int .i64 x.p]) rfl rfl rfl rfl (fun bk12 w13 ebk12 sbk12 B14 u15 => ?_)
 have zu15 := u15.size
 refine t_alloc (cs := [.int .i64 0, .int .i64 0, .slice none 0 0, .slice none 0 0, .slice none 0 0]) zeroValue131 rfl rfl rfl (fun bk17 w18 ebk17 sbk17 B19 u20 => ?_)
 have zu20 := u20.size
 refine t_assign rfl rfl rfl (t_nil' (hK1 _ _ (c_seq fun K22 hK22 => (c_region (t_field underlying68 rfl sizeOf37 (1) rfl rfl rfl rfl ?_)))))
 have B23 := (B14.kx u20)
 refine t_loadN (vs := [.int .i64 x.t.bl, .int .i64 x.t.bh, .int .i64 x.t.el, .int .i64 x.t.eh]) isAgg37 sizeOf37 rfl rfl rfl (B23.at.sub 1 4) rfl (t_call own48 rfl rfl rfl rfl (longest_c x.t _) (fun v24 w25 r27 => ?_))
 obtain ⟨rfl, u26⟩ := r27
 have zu26 := u26.size
 refine t_alloc (cs := [.int .i64 0, .int .i64 0]) zeroValue109 rfl rfl rfl (fun bk29 w30 ebk29 sbk29 B31 u32 => ?_)
 have zu32 := u32.size
 refine t_st (vs := [.int .i64 ((lngS x.t).b), .int .i64 ((lngS x.t).e)]) sizeOf109 rfl rfl rfl B31 rfl rfl rfl rfl (fun w34 sw34 B36 u35 => ?_)
 have zu35 := u35.size
 have E37 := (((((((Upd.refl (fun _ => False) w0).nx u5).nx u10).nx u15).nx u20).nx u26).nx u32).next u35 (fun i hi h => by omega)
 have B36 : Blk w34 bk29 109 [.int .i64 ((lngS x.t).b), .int .i64 ((lngS x.t).e)] := B36
 refine t_nil' (hK22 _ _ (c_seq fun K38 hK38 => (c_seq fun K39 hK39 => (c_region (t_field underlying109 rfl sizeOf3 (0) rfl rfl rfl rfl (t_load isAgg3 rfl rfl rfl (B36.get rfl) (t_field underlying131 rfl sizeOf79 (0) rfl rfl rfl rfl (t_field underlying79 rfl sizeOf3 (0) rfl rfl rfl rfl ?_))))))))
 have B40 := (((((B9.kx u15).kx u20).kx u26).kx u32).keep u35 (by omega))
 refine t_load isAgg3 rfl rfl rfl (B40.get rfl) (t_cmp rfl rfl rfl rfl rfl (t_move rfl rfl rfl (t_splitp 18 rfl (fun g18 => ?_) (fun g18 => ?_))))
 ·
  refine t_skip rfl rfl rfl (t_skip rfl rfl rfl (t_skip rfl rfl rfl (t_skip rfl rfl rfl (t_skip rfl rfl rfl (t_skip rfl rfl rfl (t_pick_t rfl rfl rfl rfl (t_nil' (hK39 _ _ (c_cond_t rfl (c_seq fun K41 hK41 => (c_region (t_loadN (vs := [.int .i64 f, .int .i64 u, .slice ap np cp, .slice ad nd cd, .slice al l.length cl]) isAgg131 sizeOf131 rfl rfl rfl (B40.at.sub 0 5) rfl ?_))))))))))))
  have B42 := (((B19.kx u26).kx u32).keep u35 (by omega))
  refine t_st (vs := [.int .i64 f, .int .i64 u, .slice ap np cp, .slice ad nd cd, .slice al l.length cl]) sizeOf131 rfl rfl rfl B42 rfl rfl rfl rfl (fun w43 sw43 B45 u44 => ?_)
  have zu44 := u44.size
  have E46 := E37.next u44 (fun i hi h => by omega)
  have B45 : Blk w43 bk17 131 [.int .i64 f, .int .i64 u, .slice ap np cp, .slice ad nd cd, .slice al l.length cl] := B45
  refine t_assign rfl rfl rfl (t_nil' (hK41 _ _ (c_ret (f_ret2 (v1 := .agg #[.int .i64 f, .int .i64 u, .slice ap np cp, .slice ad nd cd, .slice al l.length cl]) (v2 := .bool false) results67 ⟨_, _, rfl, run_loadVarN (vs := [.int .i64 f, .int .i64 u, .slice ap np cp, .slice ad nd cd, .slice al l.length cl]) isAgg131 sizeOf131 rfl (B45.at.sub 0 5)⟩ rfl ?_))))
  have hwn : winM f u x = false := by unfold winM; simp only [decide_eq_false_iff_not]; show ¬ (f ≤ x.t.bl ∧ x.t.eh ≤ u); have e1 : (lngS x.t).b = x.t.bl := rfl; have e2 : (lngS x.t).e = x.t.eh := rfl; omega
  exact ⟨⟨al, gl, cl, l, by unfold canB; rw [hwn]; rfl, by unfold canT; rw [hwn]; rfl, (hl.keep E46 (fun _ h => h)), fun h => by rw [hwn] at h; cases h⟩, E46⟩
 refine t_field underlying109 rfl sizeOf3 (1) rfl rfl rfl rfl (t_load isAgg3 rfl rfl rfl (B36.get rfl) (t_field underlying131 rfl sizeOf79 (0) rfl rfl rfl rfl (t_field underlying79 rfl sizeOf3 (1) rfl rfl rfl rfl (t_load isAgg3 rfl rfl rfl (B40.get rfl) (t_cmp rfl rfl rfl rfl rfl (t_pick_f rfl rfl rfl rfl (t_nil' (hK39 _ _ (c_condp rfl (fun g25 => ?_) (fun g25 => ?_))))))))))
 ·
  refine c_seq fun K47 hK47 => (c_region (t_loadN (vs := [.int .i64 f, .int .i64 u, .slice ap np cp, .slice ad nd cd, .slice al l.length cl]) isAgg131 sizeOf131 rfl rfl rfl (B40.at.sub 0 5) rfl ?_))
  have B48 := (((B19.kx u26).kx u32).keep u35 (by omega))
  refine t_st (vs := [.int .i64 f, .int .i64 u, .slice ap np cp, .slice ad nd cd, .slice al l.length cl]) sizeOf131 rfl rfl rfl B48 rfl rfl rfl rfl (fun w49 sw49 B51 u50 => ?_)
  have zu50 := u50.size
  have E52 := E37.next u50 (fun i hi h => by omega)
  have B51 : Blk w49 bk17 131 [.int .i64 f, .int .i64 u, .slice ap np cp, .slice ad nd cd, .slice al l.length cl] := B51
  refine t_assign rfl rfl rfl (t_nil' (hK47 _ _ (c_ret (f_ret2 (v1 := .agg #[.int .i64 f, .int .i64 u, .slice ap np cp, .slice ad nd cd, .slice al l.length cl]) (v2 := .bool false) results67 ⟨_, _, rfl, run_loadVarN (vs := [.int .i64 f, .int .i64 u, .slice ap np cp, .slice ad nd cd, .slice al l.length cl]) isAgg131 sizeOf131 rfl (B51.at.sub 0 5)⟩ rfl ?_))))
  have hwn : winM f u x = false := by unfold winM; simp only [decide_eq_false_iff_not]; show ¬ (f ≤ x.t.bl ∧ x.t.eh ≤ u); have e1 : (lngS x.t).b = x.t.bl := rfl; have e2 : (lngS x.t).e = x.t.eh := rfl; omega
  exact ⟨⟨al, gl, cl, l, by unfold canB; rw [hwn]; rfl, by unfold canT; rw [hwn]; rfl, (hl.keep E52 (fun _ h => h)), fun h => by rw [hwn] at h; cases h⟩, E52⟩
 refine c_skip (hK38 _ _ (c_seq fun K53 hK53 => (c_region (t_field underlying131 rfl sizeOf103 (4) rfl rfl rfl rfl (t_load isAgg103 rfl rfl rfl (B40.get rfl) (t_loadN (vs := [.int .i64 ((lngS x.t).b), .int .i64 ((lngS x.t).e)]) isAgg109 sizeOf109 rfl rfl rfl (B36.at.sub 0 2) rfl (t_call own51 rfl rfl rfl rfl (with_c l al gl 0 cl (lngS x.t) _ ((hl.keep E37 (fun _ h => h)).sl (fun _ => rfl)) (by omega) hs (by omega)) (fun v55 w56 r58 => ?_))))))))
 obtain ⟨⟨aoW54, gW54, cW54, rfl, haW54⟩, u57⟩ := r58
 have zu57 := u57.size
 have lt_gW54 := haW54.lt
 refine t_field underlying131 rfl sizeOf103 (4) rfl rfl rfl rfl ?_
 have B60 := (B40.kx u57)
 refine t_st (vs := [.slice aoW54 ((insS (lngS x.t) l).length) cW54]) sizeOf103 rfl rfl rfl B60 rfl rfl rfl rfl (fun w61 sw61 B63 u62 => ?_)
 have zu62 := u62.size
 have B63 : Blk w61 bk7 131 [.int .i64 f, .int .i64 u, .slice ap np cp, .slice ad nd cd, .slice aoW54 ((insS (lngS x.t) l).length) cW54] := B63
 refine t_nil' (hK53 _ _ (c_seq fun K65 hK65 => (c_drawnM follows (fun i => i = bk17) (.look 0 (.look 1 (.look 2 (.look 3 (.act 4 (.act 5 (.look 6 .done) .stop) .stop))))) (by kernel_rfl) fun w66 u67 => ?_)))
 have zu67 := u67.size
 have B69 := (B63.kx u67)
 refine y_loadN (vs := [.int .i64 f, .int .i64 u, .slice ap np cp, .slice ad nd cd, .slice aoW54 ((insS (lngS x.t) l).length) cW54]) isAgg131 sizeOf131 rfl rfl rfl (B69.at.sub 0 5) rfl (by show ¬ (bk7 = bk17); first | omega | assumption) ?_
 have B70 := (((((((((B4.kx u10).kx u15).kx u20).kx u26).kx u32).keep u35 (by omega)).kx u57).keep u62 (by omega)).kx u67)
 refine y_loadN (vs := [.int .i64 r.rest, .int .i64 r.span, .int .i64 r.work, .int .i64 r.week, .int .i64 r.ww]) isAgg100 sizeOf100 rfl rfl rfl (B70.at.sub 0 5) rfl (by show ¬ (bk2 = bk17); first | omega | assumption) (y_field underlying131 rfl sizeOf103 (4) rfl rfl rfl rfl (y_load isAgg103 rfl rfl rfl (B69.get rfl) (by show ¬ (bk7 = bk17); first | omega | assumption) (s_do ?_)))
 have D71 := ((haW54.keep u62 (fun hb => show ¬ (gW54 = bk7) by first | omega | assumption)).kE u67)
 refine t_call own49 rfl rfl rfl rfl (keeps_c r (insS (lngS x.t) l) aoW54 gW54 0 cW54 _ (D71.sl (fun _ => rfl)) (by rw [ins_len]; omega) (ins_ok (leg_sp hx) hok) hr) (fun v72 w73 r75 => ?_)
 obtain ⟨rfl, u74⟩ := r75
 have zu74 := u74.size
 refine s_next ((Upd.refl _ _).nx u74) (s_do ?_)
 have B77 := (((((((B19.kx u26).kx u32).keep u35 (by omega)).kx u57).keep u62 (by omega)).kx u67).kx u74)
 refine t_st (vs := [.int .i64 f, .int .i64 u, .slice ap np cp, .slice ad nd cd, .slice aoW54 ((insS (lngS x.t) l).length) cW54]) sizeOf131 rfl rfl rfl B77 rfl rfl rfl rfl (fun w78 sw78 B80 u79 => ?_)
 have zu79 := u79.size
 have B80 : Blk w78 bk17 131 [.int .i64 f, .int .i64 u, .slice ap np cp, .slice ad nd cd, .slice aoW54 ((insS (lngS x.t) l).length) cW54] := B80
 refine s_next ((Upd.refl _ _).next u79 (fun i hi (h : i = bk17) => show w66.heap.size ≤ i ∨ (i = bk17) by first | omega | exact .inr h)) (y_assign rfl rfl rfl (s_nil (hK65 _ _ (c_ret (f_ret2 (v1 := .agg #[.int .i64 f, .int .i64 u, .slice ap np cp, .slice ad nd cd, .slice aoW54 ((insS (lngS x.t) l).length) cW54]) (v2 := .bool (decide (brokP r (insS (lngS x.t) l) = 0))) results67 ⟨_, _, rfl, run_loadVarN (vs := [.int .i64 f, .int .i64 u, .slice ap np cp, .slice ad nd cd, .slice aoW54 ((insS (lngS x.t) l).length) cW54]) isAgg131 sizeOf131 rfl (B80.at.sub 0 5)⟩ rfl ?_)))))
 have D82 := ((D71.kE u74).keep u79 (fun hb => show ¬ (gW54 = bk17) by first | omega | assumption))
 have hwn : winM f u x = true := by unfold winM; simp only [decide_eq_true_eq]; show f ≤ x.t.bl ∧ x.t.eh ≤ u; have e1 : (lngS x.t).b = x.t.bl := rfl; have e2 : (lngS x.t).e = x.t.eh := rfl; omega
 obtain ⟨g9, hac9, hfr9⟩ := (D82).lower' (base' := base) (by omega) hb0
 exact ⟨⟨_, g9, _, _, by unfold canB; rw [hwn]; rfl, by unfold canT; rw [hwn]; rfl, hac9, fun _ h => by have := hfr9 h; omega⟩, (((((E37.nx u57).next u62 (fun i hi h => by omega)).nx u67).nx u74).next u79 (fun i hi h => by omega))⟩

theorem plt1_c (p : Ppr) (x : Leg) (b : Nat) (w0 : World) (hb : Blk w0 b 68 (encLeg x)) :
    CallsV Tryz.prog 96 [.agg #[.int .i64 p.r, .int .i64 p.u], .pointer (some ⟨b, 0, none⟩)] w0 (fun v w' => v = .bool (decide (p.r = x.r ∧ x.t.eh ≤ p.u)) ∧ Ext w0 w') := by
 refine f_enter (N := 18) func96 rfl rfl rfl (c_seq fun K1 hK1 => (c_region (t_box (cs := [.int .i64 p.r, .int .i64 p.u]) rfl rfl rfl rfl (fun bk2 w3 ebk2 sbk2 B4 u5 => ?_))))
 have zu5 := u5.size
 have E6 := (Upd.refl (fun _ => False) w0).nx u5
 refine t_assign rfl rfl rfl (t_nil' (hK1 _ _ (c_seq fun K7 hK7 => (c_region (t_field underlying136 rfl sizeOf3 (0) rfl rfl rfl rfl (t_load isAgg3 rfl rfl rfl (B4.get rfl) (t_field underlying68 rfl sizeOf3 (0) rfl rfl rfl rfl ?_)))))))
 have B8 := (hb.kx u5)
 refine t_load isAgg3 rfl rfl rfl (B8.get rfl) (t_cmp rfl rfl rfl rfl rfl (t_move rfl rfl rfl (t_splitp 9 rfl (fun g9 => ?_) (fun g9 => ?_))))
 ·
  refine t_field underlying136 rfl sizeOf3 (1) rfl rfl rfl rfl (t_load isAgg3 rfl rfl rfl (B4.get rfl) (t_field underlying68 rfl sizeOf37 (1) rfl rfl rfl rfl (t_field underlying37 rfl sizeOf35 (3) rfl rfl rfl rfl (t_field underlying35 rfl sizeOf3 (4) rfl rfl rfl rfl (t_load isAgg3 rfl rfl rfl (B8.get rfl) (t_cmp rfl rfl rfl rfl rfl (t_pick_t rfl rfl rfl rfl (t_assign rfl rfl rfl (t_nil' (hK7 _ _ (c_ret (f_ret1 (v := .bool (decide (x.t.eh ≤ p.u))) results96 rfl ?_))))))))))))
  exact ⟨congrArg Value.bool (by rw [Bool.eq_iff_iff]; simp only [decide_eq_true_eq] <;> grind), E6⟩
 refine t_skip rfl rfl rfl (t_skip rfl rfl rfl (t_skip rfl rfl rfl (t_skip rfl rfl rfl (t_skip rfl rfl rfl (t_skip rfl rfl rfl (t_skip rfl rfl rfl (t_pick_f rfl rfl rfl rfl (t_assign rfl rfl rfl (t_nil' (hK7 _ _ (c_ret (f_ret1 (v := .bool false) results96 rfl ?_))))))))))))
 exact ⟨congrArg Value.bool (by rw [Bool.eq_iff_iff]; simp only [decide_eq_true_eq] <;> grind), E6⟩

theorem pilots_c (f u : Int) (ps : List Ppr) (ap : Option Addr) (bp op cp : Nat) (ad : Option Addr) (nd cd : Nat) (at_ : Option Addr) (nt ct : Nat) (x : Leg) (w0 : World) (hp : Sl encPpr 2 w0 ap bp op ps) (hpl : ps.length ≤ 1000000) :
    CallsV Tryz.prog 68 [.agg #[.int .i64 f, .int .i64 u, .slice ap ps.length cp, .slice ad nd cd, .slice at_ nt ct], .agg #[.int .i64 x.r, .int .i64 x.t.bl, .int .i64 x.t.bh, .int .i64 x.t.el, .int .i64 x.t.eh, .int .i64 x.h, .int .i64 x.p]] w0 (fun v w' => v = .bool (pltP ps x) ∧ Ext w0 w') := by
 refine f_enter (N := 10) func68 rfl rfl rfl (c_seq fun K1 hK1 => (c_region (t_box (cs := [.int .i64 f, .int .i64 u, .slice ap ps.length cp, .slice ad nd cd, .slice at_ nt ct]) rfl rfl rfl rfl (fun bk2 w3 ebk2 sbk2 B4 u5 => ?_))))
 have zu5 := u5.size
 refine t_box (cs := [.int .i64 x.r, .int .i64 x.t.bl, .int .i64 x.t.bh, .int .i64 x.t.el, .int .i64 x.t.eh, .int .i64 x.h, .int .i64 x.p]) rfl rfl rfl rfl (fun bk7 w8 ebk7 sbk7 B9 u10 => ?_)
 have zu10 := u10.size
 have E11 := ((Upd.refl (fun _ => False) w0).nx u5).nx u10
 refine t_assign rfl rfl rfl (t_nil' (hK1 _ _ (c_seq fun K12 hK12 => (c_region (t_field underlying131 rfl sizeOf79 (0) rfl rfl rfl rfl (t_field underlying79 rfl sizeOf77 (2) rfl rfl rfl rfl ?_))))))
 have B13 := (B4.kx u10)
 refine t_load isAgg77 rfl rfl rfl (B13.get rfl) (t_mkfunc (vs := []) (us := [.pointer (some ⟨bk7, 0, none⟩)]) rfl rfl rfl rfl (t_call own93 rfl rfl rfl rfl (containsP_c encPpr (fun _ => rfl) (fun p => decide (p.r = x.r ∧ x.t.eh ≤ p.u)) 96 [.pointer (some ⟨bk7, 0, none⟩)] ps ap bp op cp _ own96 (fun p _ w v => plt1_c p x bk7 w (B9.keep v (fun h => h))) (hp.keep E11 (fun _ h => h)) hpl) (fun v14 w15 r17 => ?_)))
 obtain ⟨rfl, u16⟩ := r17
 have zu16 := u16.size
 refine t_assign rfl rfl rfl (t_nil' (hK12 _ _ (c_ret (f_ret1 (v := .bool (pltP ps x)) results68 rfl ?_))))
 exact ⟨rfl, (E11.nx u16)⟩

end Go.Proofs.YtagmodjadmecdaaGreat
namespace Go.Proofs.YtagmodjadmecdaaGreat
open Go Go.RowKit Tryz

structure HS where
  f : Int
  u : Int
  ps : List Ppr
  ap : Option Addr
  bp : Nat
  op : Nat
  cp : Nat
  ds : List Dty
  ad : Option Addr
  bd : Nat
  od : Nat
  cd : Nat
instance : Inhabited HS := ⟨⟨default, default, default, default, default, default, default, default, default, default, default, default⟩⟩
def HS.slr (h : HS) : Slr := ⟨h.f, h.u, h.ps, h.ds⟩
def encHS (h : HS) : List Value := [.int .i64 h.f, .int .i64 h.u, .slice h.ap h.ps.length h.cp, .slice h.ad h.ds.length h.cd]
structure SlrM (w : World) (h : HS) : Prop where
  hp : Sl encPpr 2 w h.ap h.bp h.op h.ps
  hpl : h.ps.length ≤ 1000000
  hd : Sl encDty 4 w h.ad h.bd h.od h.ds
  hdl : h.ds.length ≤ 1000000
theorem SlrM.ext {w w' : World} {h : HS} (m : SlrM w h) (u : Ext w w') : SlrM w' h := ⟨m.hp.keep u (fun _ h => h), m.hpl, m.hd.keep u (fun _ h => h), m.hdl⟩
structure Mb where
  f : Int
  u : Int
  ps : List Ppr
  ts : List Sp
instance : Inhabited Mb := ⟨⟨default, default, default, default⟩⟩
def boardP (s : Slr) : Mb := ⟨s.f, s.u, s.ps, srtS (s.ds.map lngS)⟩
structure HM where
  f : Int
  u : Int
  ps : List Ppr
  ap : Option Addr
  bp : Nat
  op : Nat
  cp : Nat
  ad : Option Addr
  nd : Nat
  cd : Nat
  ts : List Sp
  at_ : Option Addr
  gt : Nat
  ct : Nat
instance : Inhabited HM := ⟨⟨default, default, default, default, default, default, default, default, default, default, default, default, default, default⟩⟩
def HM.mb (h : HM) : Mb := ⟨h.f, h.u, h.ps, h.ts⟩
def encHM (h : HM) : List Value := [.int .i64 h.f, .int .i64 h.u, .slice h.ap h.ps.length h.cp, .slice h.ad h.nd h.cd, .slice h.at_ h.ts.length h.ct]
def TP (F : Nat → Prop) (pb : Nat) (w : World) (i : Nat) : Prop := F i ∨ (pb ≤ i ∧ ∃ cs, Blk w i 60 cs)
theorem TP.back {F : Nat → Prop} {pb : Nat} {w w' : World} (u : Upd (TP F pb w) w w') {i : Nat} (hi : i < w.heap.size) (h : TP F pb w' i) : TP F pb w i := by
  by_cases q : TP F pb w i
  · exact q
  · rcases h with h | ⟨h, cs, hb⟩
    · exact .inl h
    · exact .inr ⟨h, cs, (u.block i hi q).symm.trans hb⟩
theorem TP.backE {F : Nat → Prop} {pb : Nat} {w w' : World} (u : Ext w w') {i : Nat} (hi : i < w.heap.size) (h : TP F pb w' i) : TP F pb w i := TP.back u.to hi h
theorem PU.trans {F : Nat → Prop} {pb : Nat} {a b c : World} (u : Upd (TP F pb a) a b) (v : Upd (TP F pb b) b c) : Upd (TP F pb a) a c := u.next v (fun _ hi h => TP.back u hi h)
theorem TP.not {F : Nat → Prop} {pb b : Nat} {w : World} {t : TypeId} {cs : List Value} (hF : ¬ F b) (h : Blk w b t cs) (ht : t ≠ 60) : ¬ TP F pb w b := by
  rintro (q | ⟨_, cs', q⟩)
  · exact hF q
  · unfold Blk at h q; rw [h] at q; injection q with q; injection q with _ q; exact ht q
theorem Acc.notTP {α : Type} {enc : α → List Value} {k : Nat} {e : TypeId} {base : Nat} {w : World} {ao : Option Addr} {g cap : Nat} {xs : List α} (h : Acc enc k e base w ao g cap xs) {F : Nat → Prop} {pb : Nat} (hF : base ≤ g → ¬ F g) (ht : e ≠ 60) : base ≤ g → ¬ TP F pb w g := fun hb => by
  rcases h.at_ with ⟨_, _, _, h1⟩ | ⟨_, _, cur, h1, _⟩
  · omega
  · exact TP.not (cs := cur.toList) (hF hb) (by simpa [Blk] using h1) ht
theorem Acc.notLoop {α : Type} {enc : α → List Value} {k : Nat} {e : TypeId} {base : Nat} {w : World} {ao : Option Addr} {g cap l : Nat} {xs : List α} (h : Acc enc k e base w ao g cap xs) (hl : ∃ r, w.heap[l]? = some (.loop r)) : base ≤ g → ¬ g = l := fun hb e => by
  subst e; obtain ⟨r, hr⟩ := hl
  rcases h.at_ with ⟨_, _, _, h1⟩ | ⟨_, _, cur, h1, _⟩
  · omega
  · rw [hr] at h1; cases h1
structure MbM (F : Nat → Prop) (pb : Nat) (w : World) (m : HM) : Prop where
  hp : Sl encPpr 2 w m.ap m.bp m.op m.ps
  hb : 0 < m.ps.length → m.bp < pb
  hpl : m.ps.length ≤ 10
  ht : Acc encSp 2 109 pb w m.at_ m.gt m.ct m.ts
  hn : pb ≤ m.gt → ¬ F m.gt
  srt : Srt m.ts
  ok : ∀ s ∈ m.ts, OkSp s
structure RowM (F : Nat → Prop) (pb : Nat) (w : World) (am : Option Addr) (mb cm : Nat) (ms : List HM) : Prop where
  acc : Acc encHM 5 131 pb w am mb cm ms
  mem : ∀ m ∈ ms, MbM F pb w m
theorem MbM.ext {F : Nat → Prop} {pb : Nat} {w w' : World} {m : HM} (h : MbM F pb w m) (u : Ext w w') : MbM F pb w' m := ⟨h.hp.keep u (fun _ h => h), h.hb, h.hpl, h.ht.keep u (fun _ h => h), h.hn, h.srt, h.ok⟩
theorem RowM.ext {F : Nat → Prop} {pb : Nat} {w w' : World} {am : Option Addr} {mb cm : Nat} {ms : List HM} (h : RowM F pb w am mb cm ms) (u : Ext w w') : RowM F pb w' am mb cm ms := ⟨h.acc.keep u (fun _ h => h), fun m hm => (h.mem m hm).ext u⟩
theorem MbM.tp {F : Nat → Prop} {pb : Nat} {w w' : World} {m : HM} (h : MbM F pb w m) (hF : ∀ i, F i → pb ≤ i) (u : Upd (TP F pb w) w w') : MbM F pb w' m :=
  ⟨h.hp.keep u (fun hp hq => by have h1 := h.hb hp; exact hq.elim (fun q => by have := hF _ q; omega) (fun q => by omega)), h.hb, h.hpl, h.ht.keep u (h.ht.notTP h.hn (by decide)), h.hn, h.srt, h.ok⟩
theorem MbM.upd {F S : Nat → Prop} {pb : Nat} {w w' : World} {m : HM} (h : MbM F pb w m) (u : Upd S w w') (h1 : 0 < m.ps.length → ¬ S m.bp) (h2 : pb ≤ m.gt → ¬ S m.gt) : MbM F pb w' m := ⟨h.hp.keep u h1, h.hb, h.hpl, h.ht.keep u h2, h.hn, h.srt, h.ok⟩
theorem Acc.neBlk {α : Type} {enc : α → List Value} {k : Nat} {e t : TypeId} {base b : Nat} {w : World} {ao : Option Addr} {g cap : Nat} {xs : List α} {cs : List Value} (h : Acc enc k e base w ao g cap xs) (hB : Blk w b t cs) (ht : e ≠ t) : base ≤ g → g ≠ b := fun hb q => by
  subst q
  rcases h.at_ with ⟨_, _, _, h1⟩ | ⟨_, _, cur, h1, _⟩
  · omega
  · unfold Blk at hB; rw [h1] at hB; injection hB with hB; injection hB with _ hB; exact ht hB
theorem Acc.neAcc {α β : Type} {enc : α → List Value} {enc' : β → List Value} {k k' : Nat} {e e' : TypeId} {base base' : Nat} {w : World} {ao ao' : Option Addr} {g g' cap cap' : Nat} {xs : List α} {ys : List β} (h : Acc enc k e base w ao g cap xs) (h' : Acc enc' k' e' base' w ao' g' cap' ys) (ht : e ≠ e') : base ≤ g → base' ≤ g' → g ≠ g' := fun hb hb' q => by
  subst q
  rcases h.at_ with ⟨_, _, _, h1⟩ | ⟨_, _, cur, h1, _⟩
  · omega
  · rcases h'.at_ with ⟨_, _, _, h2⟩ | ⟨_, _, cur', h2, _⟩
    · omega
    · rw [h1] at h2; injection h2 with h2; injection h2 with _ h2; exact ht h2
theorem MbM.row {F : Nat → Prop} {pb mb : Nat} {w w' : World} {m : HM} (h : MbM F pb w m) (hm : pb ≤ mb → F mb) (u : Upd (fun i => i = mb ∧ pb ≤ i) w w') : MbM F pb w' m :=
  ⟨h.hp.keep u (fun hp hq => by have h1 := h.hb hp; omega), h.hb, h.hpl, h.ht.keep u (fun hb hq => h.hn hb (hq.1 ▸ hm (by omega))), h.hn, h.srt, h.ok⟩
theorem MbM.turned {F : Nat → Prop} {pb : Nat} {l : Nat} : Turned l (fun m W => MbM F pb W m) := fun m W W' h hl u =>
  ⟨h.hp.keep u (fun hp => h.hp.notLoop (fun _ => by simp [encPpr]) hl hp), h.hb, h.hpl, h.ht.keep u (h.ht.notLoop hl), h.hn, h.srt, h.ok⟩
theorem RowM.turned {F : Nat → Prop} {pb : Nat} {am : Option Addr} {mb cm l : Nat} : Turned l (fun ms W => RowM F pb W am mb cm ms) := fun _ms W W' h hl u =>
  ⟨h.acc.keep u (h.acc.notLoop hl), fun m hm => MbM.turned m W W' (h.mem m hm) hl u⟩
theorem RowM.mono {F G : Nat → Prop} {pb : Nat} {w : World} {am : Option Addr} {mb cm : Nat} {ms : List HM} (h : RowM F pb w am mb cm ms) (hG : ∀ m ∈ ms, pb ≤ m.gt → G m.gt → F m.gt) : RowM G pb w am mb cm ms :=
  ⟨h.acc, fun m hm => let q := h.mem m hm; ⟨q.hp, q.hb, q.hpl, q.ht, fun hb hg => q.hn hb (hG m hm hb hg), q.srt, q.ok⟩⟩
theorem RowM.set {F : Nat → Prop} {pb : Nat} {w w' : World} {am : Option Addr} {mb cm i : Nat} {ms : List HM} {m : HM} (h : RowM F pb w am mb cm ms) (hm : pb ≤ mb → F mb) (u : Upd (fun i => i = mb ∧ pb ≤ i) w w') (ha : Acc encHM 5 131 pb w' am mb cm (ms.set i m)) (hn : MbM F pb w m) : RowM F pb w' am mb cm (ms.set i m) :=
  ⟨ha, fun x hx => by
    rcases List.mem_or_eq_of_mem_set hx with q | q
    · exact (h.mem x q).row hm u
    · rw [q]; exact hn.row hm u⟩
def openE (r : Rul) (ss : List Slr) (xs : List Leg) : Int :=
  if chkR r ≠ 0 then chkR r else if 6 < ss.length then 5 else if (ss.any fun s => !okSlr s) = true then 2 else if 8 < xs.length then 5 else if (xs.any fun x => !okLeg x) = true then 2 else 0
theorem openE_ok {r : Rul} {ss : List Slr} {xs : List Leg} (h : openE r ss xs = 0) : okRul r = true ∧ ss.length ≤ 6 ∧ (∀ s ∈ ss, okSlr s = true) ∧ xs.length ≤ 8 ∧ ∀ x ∈ xs, okLeg x = true := by
  unfold openE at h
  by_cases h1 : okRul r = true
  · have e1 : chkR r = 0 := by unfold chkR; rw [if_pos h1]
    rw [if_neg (by omega)] at h
    by_cases h2 : 6 < ss.length
    · rw [if_pos h2] at h; cases h
    rw [if_neg h2] at h
    by_cases h3 : (ss.any fun s => !okSlr s) = true
    · rw [if_pos h3] at h; cases h
    rw [if_neg h3] at h
    by_cases h4 : 8 < xs.length
    · rw [if_pos h4] at h; cases h
    rw [if_neg h4] at h
    by_cases h5 : (xs.any fun x => !okLeg x) = true
    · rw [if_pos h5] at h; cases h
    refine ⟨h1, by omega, fun s hs => ?_, by omega, fun x hx => ?_⟩
    · cases q : okSlr s with
      | true => rfl
      | false => exact absurd (List.any_eq_true.2 ⟨s, hs, by simp [q]⟩) h3
    · cases q : okLeg x with
      | true => rfl
      | false => exact absurd (List.any_eq_true.2 ⟨x, hx, by simp [q]⟩) h5
  · have e1 : chkR r = 2 := by unfold chkR; rw [if_neg h1]
    rw [if_pos (by omega)] at h; omega
theorem any_slr {hs : List HS} : (hs.any fun h => !okSlr h.slr) = ((hs.map HS.slr).any fun s => !okSlr s) := by rw [List.any_map]; rfl
def MKM (h : HS) (ao : Option Addr) (g c : Nat) : HM := ⟨h.f, h.u, h.ps, h.ap, h.bp, h.op, h.cp, h.ad, h.ds.length, h.cd, srtS (h.ds.map lngS), ao, g, c⟩
theorem MKM.mem {pb : Nat} {w : World} {h : HS} {ao : Option Addr} {g c : Nat} (m : SlrM w h) (hok : okSlr h.slr = true) (hb : 0 < h.ps.length → h.bp < pb) (ha : Acc encSp 2 109 pb w ao g c (srtS (h.ds.map lngS))) : MbM (fun _ => False) pb w (MKM h ao g c) :=
  have q := okSlr_ok hok
  ⟨m.hp, hb, q.2.1, ha, fun _ h => h, srt_srt _, lngs_ok q.2.2.2⟩
theorem own57 : Own Tryz.prog 57 := ⟨Tryz.f57, func57, by kernel_rfl, by kernel_rfl⟩
theorem own86 : Own Tryz.prog 86 := ⟨Tryz.f86, func86, by kernel_rfl, by kernel_rfl⟩
theorem own87 : Own Tryz.prog 87 := ⟨Tryz.f87, func87, by kernel_rfl, by kernel_rfl⟩
theorem own88 : Own Tryz.prog 88 := ⟨Tryz.f88, func88, by kernel_rfl, by kernel_rfl⟩
theorem own89 : Own Tryz.prog 89 := ⟨Tryz.f89, func89, by kernel_rfl, by kernel_rfl⟩
theorem own109 : Own Tryz.prog 109 := ⟨Tryz.f109, func109, by kernel_rfl, by kernel_rfl⟩
theorem own110 : Own Tryz.prog 110 := ⟨Tryz.f110, func110, by kernel_rfl, by kernel_rfl⟩

theorem indexS_c {α : Type} [Inhabited α] (enc : α → List Value) (hk : ∀ x, (enc x).length = 4) (p : α → Bool) (fv : FuncId) (caps : List Value) (xs : List α) (ao : Option Addr) (b o cap : Nat) (w0 : World) (ho : Own Tryz.prog fv) (hp : ∀ x ∈ xs, ∀ w, Ext w0 w → CallsV Tryz.prog fv ([.agg (enc x).toArray] ++ caps) w fun v w' => v = .bool (p x) ∧ Ext w w') (hs : Sl enc 4 w0 ao b o xs) (hl : xs.length ≤ 1000000) :
    CallsV Tryz.prog 109 [.slice ao xs.length cap, .func (.func fv) #[] (caps).toArray] w0 (fun v w' => (∃ n : Int, v = .int .i64 n ∧ decide (0 ≤ n) = xs.any p) ∧ Ext w0 w') := by
 refine f_enter (N := 19) func109 rfl rfl rfl (c_seq fun K1 hK1 => (c_region (t_assign rfl rfl rfl (t_nil' (hK1 _ _ (c_seq fun K2 hK2 => (c_seq fun K3 hK3 => (c_region (t_move rfl rfl rfl (t_len underlying54 rfl rfl rfl rfl (t_move rfl rfl rfl (t_nil' (hK3 _ _ (c_block (c_loop (γ := Nat) (fun k => [(0, .slice ao xs.length cap), (1, .func (.func fv) #[] (caps).toArray), (7, .int .i64 (xs.length : Int)), (8, .int .i64 (k : Int))]) (fun k w => Upd (fun _ => False) w0 w ∧ (k ≤ xs.length) ∧ ((xs.take k).any p = false)) (fun k => xs.length - k) 0 ⟨rfl, rfl, rfl, rfl, trivial⟩ ⟨Upd.refl _ _, Nat.zero_le _, (by simp)⟩ ?_)))))))))))))))
 intro k w5 hW K4 hK4
 obtain ⟨u6, I7, I8⟩ := hW
 have zu6 := u6.size
 have E9 := (Upd.refl (fun _ => False) w0).nx u6
 have hle := I7; clear I7
 have hnot := I8; clear I8
 refine c_seq fun K10 hK10 => (c_region (t_cmp rfl rfl rfl rfl rfl (t_nil' (hK10 _ _ (c_seq fun K11 hK11 => (c_condp rfl (fun g9 => ?_) (fun g9 => ?_)))))))
 ·
  refine c_skip (hK11 _ _ (c_seq fun K12 hK12 => (c_block (c_seq fun K13 hK13 => (c_region (t_move rfl rfl rfl (t_assign rfl rfl rfl (t_nil' (hK13 _ _ (c_seq fun K14 hK14 => (c_region (t_move rfl rfl rfl (t_move rfl rfl rfl (t_move rfl rfl rfl ?_))))))))))))))
  have i15 : k < xs.length := (by omega)
  refine t_index (j := k) underlying54 sizeOf79 rfl rfl rfl rfl ((hs.keep E9 (fun _ h => h)).addr (by omega)) rfl i15 (t_loadN (vs := enc (nth xs k)) isAgg79 sizeOf79 rfl rfl rfl ((hs.keep E9 (fun _ h => h)).at_ k (by omega)) (hk _) (t_call (fs := []) (cs := caps) ho rfl rfl rfl rfl (hp (nth xs k) (nth_mem (by omega)) _ E9) (fun v16 w17 r19 => ?_)))
  obtain ⟨rfl, u18⟩ := r19
  have zu18 := u18.size
  refine t_nil' (hK14 _ _ (c_cond rfl (fun g16 => ?_) (fun g16 => ?_)))
  ·
   refine c_seq fun K21 hK21 => (c_region (t_move rfl rfl rfl (t_assign rfl rfl rfl (t_nil' (hK21 _ _ (c_ret (f_ret1 (v := .int .i64 (k : Int)) results109 rfl ?_)))))))
   exact ⟨⟨_, rfl, any_hit (by omega) g16⟩, (E9.nx u18)⟩
  refine c_skip (hK12 _ _ (c_region (t_ari rfl rfl rfl rfl rfl (by omega) (t_move rfl rfl rfl (t_nil' ?_)))))
  exact hK4 (k + 1) _ _ (by omega) ⟨rfl, rfl, rfl, rfl, trivial⟩ ⟨(u6.nx u18), (by omega), (any_snoc (by omega) hnot g16)⟩
 refine c_exit (hK2 _ _ (c_seq fun K22 hK22 => (c_region (t_assign rfl rfl rfl (t_nil' (hK22 _ _ (c_ret (f_ret1 (v := .int .i64 (-1)) results109 rfl ?_))))))))
 exact ⟨⟨_, rfl, any_none (by omega) hnot⟩, E9⟩

theorem containsS_c {α : Type} [Inhabited α] (enc : α → List Value) (hk : ∀ x, (enc x).length = 4) (p : α → Bool) (fv : FuncId) (caps : List Value) (xs : List α) (ao : Option Addr) (b o cap : Nat) (w0 : World) (ho : Own Tryz.prog fv) (hp : ∀ x ∈ xs, ∀ w, Ext w0 w → CallsV Tryz.prog fv ([.agg (enc x).toArray] ++ caps) w fun v w' => v = .bool (p x) ∧ Ext w w') (hs : Sl enc 4 w0 ao b o xs) (hl : xs.length ≤ 1000000) :
    CallsV Tryz.prog 86 [.slice ao xs.length cap, .func (.func fv) #[] (caps).toArray] w0 (fun v w' => v = .bool (xs.any p) ∧ Ext w0 w') := by
 refine f_enter (N := 9) func86 rfl rfl rfl (c_seq fun K1 hK1 => (c_region (t_assign rfl rfl rfl (t_nil' (hK1 _ _ (c_seq fun K2 hK2 => (c_region (t_move rfl rfl rfl (t_move rfl rfl rfl (t_call own109 rfl rfl rfl rfl (indexS_c enc hk p fv caps xs ao b o cap _ ho hp hs hl) (fun v3 w4 r6 => ?_)))))))))))
 obtain ⟨⟨n, rfl, hn⟩, u5⟩ := r6
 have zu5 := u5.size
 refine t_cmp rfl rfl rfl rfl rfl (t_assign rfl rfl rfl (t_nil' (hK2 _ _ (c_ret (f_ret1 (v := .bool (decide (0 ≤ n))) results86 rfl ?_)))))
 exact ⟨by rw [hn], ((Upd.refl (fun _ => False) w0).nx u5)⟩

theorem indexL_c {α : Type} [Inhabited α] (enc : α → List Value) (hk : ∀ x, (enc x).length = 7) (p : α → Bool) (fv : FuncId) (caps : List Value) (xs : List α) (ao : Option Addr) (b o cap : Nat) (w0 : World) (ho : Own Tryz.prog fv) (hp : ∀ x ∈ xs, ∀ w, Ext w0 w → CallsV Tryz.prog fv ([.agg (enc x).toArray] ++ caps) w fun v w' => v = .bool (p x) ∧ Ext w w') (hs : Sl enc 7 w0 ao b o xs) (hl : xs.length ≤ 1000000) :
    CallsV Tryz.prog 110 [.slice ao xs.length cap, .func (.func fv) #[] (caps).toArray] w0 (fun v w' => (∃ n : Int, v = .int .i64 n ∧ decide (0 ≤ n) = xs.any p) ∧ Ext w0 w') := by
 refine f_enter (N := 19) func110 rfl rfl rfl (c_seq fun K1 hK1 => (c_region (t_assign rfl rfl rfl (t_nil' (hK1 _ _ (c_seq fun K2 hK2 => (c_seq fun K3 hK3 => (c_region (t_move rfl rfl rfl (t_len underlying55 rfl rfl rfl rfl (t_move rfl rfl rfl (t_nil' (hK3 _ _ (c_block (c_loop (γ := Nat) (fun k => [(0, .slice ao xs.length cap), (1, .func (.func fv) #[] (caps).toArray), (7, .int .i64 (xs.length : Int)), (8, .int .i64 (k : Int))]) (fun k w => Upd (fun _ => False) w0 w ∧ (k ≤ xs.length) ∧ ((xs.take k).any p = false)) (fun k => xs.length - k) 0 ⟨rfl, rfl, rfl, rfl, trivial⟩ ⟨Upd.refl _ _, Nat.zero_le _, (by simp)⟩ ?_)))))))))))))))
 intro k w5 hW K4 hK4
 obtain ⟨u6, I7, I8⟩ := hW
 have zu6 := u6.size
 have E9 := (Upd.refl (fun _ => False) w0).nx u6
 have hle := I7; clear I7
 have hnot := I8; clear I8
 refine c_seq fun K10 hK10 => (c_region (t_cmp rfl rfl rfl rfl rfl (t_nil' (hK10 _ _ (c_seq fun K11 hK11 => (c_condp rfl (fun g9 => ?_) (fun g9 => ?_)))))))
 ·
  refine c_skip (hK11 _ _ (c_seq fun K12 hK12 => (c_block (c_seq fun K13 hK13 => (c_region (t_move rfl rfl rfl (t_assign rfl rfl rfl (t_nil' (hK13 _ _ (c_seq fun K14 hK14 => (c_region (t_move rfl rfl rfl (t_move rfl rfl rfl (t_move rfl rfl rfl ?_))))))))))))))
  have i15 : k < xs.length := (by omega)
  refine t_index (j := k) underlying55 sizeOf68 rfl rfl rfl rfl ((hs.keep E9 (fun _ h => h)).addr (by omega)) rfl i15 (t_loadN (vs := enc (nth xs k)) isAgg68 sizeOf68 rfl rfl rfl ((hs.keep E9 (fun _ h => h)).at_ k (by omega)) (hk _) (t_call (fs := []) (cs := caps) ho rfl rfl rfl rfl (hp (nth xs k) (nth_mem (by omega)) _ E9) (fun v16 w17 r19 => ?_)))
  obtain ⟨rfl, u18⟩ := r19
  have zu18 := u18.size
  refine t_nil' (hK14 _ _ (c_cond rfl (fun g16 => ?_) (fun g16 => ?_)))
  ·
   refine c_seq fun K21 hK21 => (c_region (t_move rfl rfl rfl (t_assign rfl rfl rfl (t_nil' (hK21 _ _ (c_ret (f_ret1 (v := .int .i64 (k : Int)) results110 rfl ?_)))))))
   exact ⟨⟨_, rfl, any_hit (by omega) g16⟩, (E9.nx u18)⟩
  refine c_skip (hK12 _ _ (c_region (t_ari rfl rfl rfl rfl rfl (by omega) (t_move rfl rfl rfl (t_nil' ?_)))))
  exact hK4 (k + 1) _ _ (by omega) ⟨rfl, rfl, rfl, rfl, trivial⟩ ⟨(u6.nx u18), (by omega), (any_snoc (by omega) hnot g16)⟩
 refine c_exit (hK2 _ _ (c_seq fun K22 hK22 => (c_region (t_assign rfl rfl rfl (t_nil' (hK22 _ _ (c_ret (f_ret1 (v := .int .i64 (-1)) results110 rfl ?_))))))))
 exact ⟨⟨_, rfl, any_none (by omega) hnot⟩, E9⟩

theorem containsL_c {α : Type} [Inhabited α] (enc : α → List Value) (hk : ∀ x, (enc x).length = 7) (p : α → Bool) (fv : FuncId) (caps : List Value) (xs : List α) (ao : Option Addr) (b o cap : Nat) (w0 : World) (ho : Own Tryz.prog fv) (hp : ∀ x ∈ xs, ∀ w, Ext w0 w → CallsV Tryz.prog fv ([.agg (enc x).toArray] ++ caps) w fun v w' => v = .bool (p x) ∧ Ext w w') (hs : Sl enc 7 w0 ao b o xs) (hl : xs.length ≤ 1000000) :
    CallsV Tryz.prog 88 [.slice ao xs.length cap, .func (.func fv) #[] (caps).toArray] w0 (fun v w' => v = .bool (xs.any p) ∧ Ext w0 w') := by
 refine f_enter (N := 9) func88 rfl rfl rfl (c_seq fun K1 hK1 => (c_region (t_assign rfl rfl rfl (t_nil' (hK1 _ _ (c_seq fun K2 hK2 => (c_region (t_move rfl rfl rfl (t_move rfl rfl rfl (t_call own110 rfl rfl rfl rfl (indexL_c enc hk p fv caps xs ao b o cap _ ho hp hs hl) (fun v3 w4 r6 => ?_)))))))))))
 obtain ⟨⟨n, rfl, hn⟩, u5⟩ := r6
 have zu5 := u5.size
 refine t_cmp rfl rfl rfl rfl rfl (t_assign rfl rfl rfl (t_nil' (hK2 _ _ (c_ret (f_ret1 (v := .bool (decide (0 ≤ n))) results88 rfl ?_)))))
 exact ⟨by rw [hn], ((Upd.refl (fun _ => False) w0).nx u5)⟩

theorem badSlr_c (h : HS) (w0 : World) (hm : SlrM w0 h) :
    CallsV Tryz.prog 87 [.agg #[.int .i64 h.f, .int .i64 h.u, .slice h.ap h.ps.length h.cp, .slice h.ad h.ds.length h.cd]] w0 (fun v w' => v = .bool (!okSlr h.slr) ∧ Ext w0 w') := by
 refine f_enter (N := 6) func87 rfl rfl rfl (c_seq fun K1 hK1 => (c_region (t_box (cs := [.int .i64 h.f, .int .i64 h.u, .slice h.ap h.ps.length h.cp, .slice h.ad h.ds.length h.cd]) rfl rfl rfl rfl (fun bk2 w3 ebk2 sbk2 B4 u5 => ?_))))
 have zu5 := u5.size
 have E6 := (Upd.refl (fun _ => False) w0).nx u5
 refine t_assign rfl rfl rfl (t_nil' (hK1 _ _ (c_seq fun K7 hK7 => (c_region (t_loadN (vs := [.int .i64 h.f, .int .i64 h.u, .slice h.ap h.ps.length h.cp, .slice h.ad h.ds.length h.cd]) isAgg79 sizeOf79 rfl rfl rfl (B4.at.sub 0 4) rfl (t_call own64 rfl rfl rfl rfl (isSailor_c h.f h.u h.ps h.ap h.bp h.op h.cp h.ds h.ad h.bd h.od h.cd _ (hm.hp.keep E6 (fun _ h => h)) hm.hpl (hm.hd.keep E6 (fun _ h => h)) hm.hdl) (fun v8 w9 r11 => ?_)))))))
 obtain ⟨rfl, u10⟩ := r11
 have zu10 := u10.size
 refine t_not rfl rfl rfl (t_assign rfl rfl rfl (t_nil' (hK7 _ _ (c_ret (f_ret1 (v := .bool (!(okSlr ⟨h.f, h.u, h.ps, h.ds⟩))) results87 rfl ?_)))))
 exact ⟨rfl, (E6.nx u10)⟩

theorem badLeg_c (x : Leg) (w0 : World) :
    CallsV Tryz.prog 89 [.agg #[.int .i64 x.r, .int .i64 x.t.bl, .int .i64 x.t.bh, .int .i64 x.t.el, .int .i64 x.t.eh, .int .i64 x.h, .int .i64 x.p]] w0 (fun v w' => v = .bool (!okLeg x) ∧ Ext w0 w') := by
 refine f_enter (N := 6) func89 rfl rfl rfl (c_seq fun K1 hK1 => (c_region (t_box (cs := [.int .i64 x.r, .int .i64 x.t.bl, .int .i64 x.t.bh, .int .i64 x.t.el, .int .i64 x.t.eh, .int .i64 x.h, .int .i64 x.p]) rfl rfl rfl rfl (fun bk2 w3 ebk2 sbk2 B4 u5 => ?_))))
 have zu5 := u5.size
 refine t_assign rfl rfl rfl (t_nil' (hK1 _ _ (c_seq fun K7 hK7 => (c_region (t_loadN (vs := [.int .i64 x.r, .int .i64 x.t.bl, .int .i64 x.t.bh, .int .i64 x.t.el, .int .i64 x.t.eh, .int .i64 x.h, .int .i64 x.p]) isAgg68 sizeOf68 rfl rfl rfl (B4.at.sub 0 7) rfl (t_call own65 rfl rfl rfl rfl (isLeg_c x _) (fun v8 w9 r11 => ?_)))))))
 obtain ⟨rfl, u10⟩ := r11
 have zu10 := u10.size
 refine t_not rfl rfl rfl (t_assign rfl rfl rfl (t_nil' (hK7 _ _ (c_ret (f_ret1 (v := .bool (!(okLeg x))) results89 rfl ?_)))))
 exact ⟨rfl, (((Upd.refl (fun _ => False) w0).nx u5).nx u10)⟩

set_option maxHeartbeats 1000000 in
theorem open_c (r : Rul) (hs : List HS) (al : Option Addr) (bl ol cl : Nat) (xs : List Leg) (ax : Option Addr) (bx ox cx : Nat) (w0 : World) (hl : Sl encHS 4 w0 al bl ol hs) (hll : hs.length ≤ 1000000) (hsm : ∀ h ∈ hs, SlrM w0 h) (hxs : Sl encLeg 7 w0 ax bx ox xs) (hxl : xs.length ≤ 1000000) (hpos : 0 < w0.heap.size) :
    CallsV Tryz.prog 57 [.agg #[.int .i64 r.rest, .int .i64 r.span, .int .i64 r.work, .int .i64 r.week, .int .i64 r.ww], .slice al hs.length cl, .slice ax xs.length cx] w0 (fun v w' => (∃ po e, v = .tuple #[.pointer po, .int .i64 e] ∧ e = openE r (hs.map HS.slr) xs ∧ (e = 0 → ∃ c am mb cm ms, po = some ⟨c, 0, none⟩ ∧ w0.heap.size ≤ c ∧ Blk w' c 144 [.int .i64 r.rest, .int .i64 r.span, .int .i64 r.work, .int .i64 r.week, .int .i64 r.ww, .slice am (List.length ms) cm] ∧ RowM (fun _ => False) w0.heap.size w' am mb cm ms ∧ ms.map HM.mb = hs.map (fun h => boardP h.slr))) ∧ Ext w0 w') := by
 refine f_enter (N := 54) func57 rfl rfl rfl (c_seq fun K1 hK1 => (c_region (t_box (cs := [.int .i64 r.rest, .int .i64 r.span, .int .i64 r.work, .int .i64 r.week, .int .i64 r.ww]) rfl rfl rfl rfl (fun bk2 w3 ebk2 sbk2 B4 u5 => ?_))))
 have zu5 := u5.size
 refine t_assign rfl rfl rfl (t_assign rfl rfl rfl (t_nil' (hK1 _ _ (c_seq fun K7 hK7 => (c_seq fun K8 hK8 => (c_region (t_loadN (vs := [.int .i64 r.rest, .int .i64 r.span, .int .i64 r.work, .int .i64 r.week, .int .i64 r.ww]) isAgg23 sizeOf23 rfl rfl rfl (B4.at.sub 0 5) rfl (t_call own10 rfl rfl rfl rfl (Check_c r _) (fun v9 w10 r12 => ?_)))))))))
 obtain ⟨rfl, u11⟩ := r12
 have zu11 := u11.size
 have E13 := ((Upd.refl (fun _ => False) w0).nx u5).nx u11
 refine t_assign rfl rfl rfl (t_nil' (hK8 _ _ (c_seq fun K14 hK14 => (c_region (t_move rfl rfl rfl (t_cmp rfl rfl rfl rfl rfl (t_nil' (hK14 _ _ (c_condp rfl (fun g15 => ?_) (fun g15 => ?_))))))))))
 ·
  refine c_seq fun K15 hK15 => (c_region (t_move rfl rfl rfl (t_assign rfl rfl rfl (t_assign rfl rfl rfl (t_nil' (hK15 _ _ (c_ret (f_ret2 (v1 := .pointer none) (v2 := .int .i64 (chkR r)) results57 rfl rfl ?_))))))))
  exact ⟨⟨none, _, rfl, by unfold openE; rw [if_pos g15], fun h => absurd h (g15)⟩, E13⟩
 refine c_skip (hK7 _ _ (c_seq fun K16 hK16 => (c_block (c_seq fun K17 hK17 => (c_region (t_move rfl rfl rfl (t_len underlying54 rfl rfl rfl rfl (t_cmp rfl rfl rfl rfl rfl (t_assign rfl rfl rfl (t_nil' (hK17 _ _ (c_condp rfl (fun g17 => ?_) (fun g17 => ?_)))))))))))))
 ·
  refine c_seq fun K18 hK18 => (c_region (t_assign rfl rfl rfl (t_assign rfl rfl rfl (t_nil' (hK18 _ _ (c_ret (f_ret2 (v1 := .pointer none) (v2 := .int .i64 5) results57 rfl rfl ?_)))))))
  exact ⟨⟨none, _, rfl, by unfold openE; rw [if_neg g15, List.length_map, if_pos (by omega)], fun h => absurd h (by decide)⟩, E13⟩
 refine c_seq fun K19 hK19 => (c_region (t_move rfl rfl rfl (t_call own86 rfl rfl rfl rfl (containsS_c encHS (fun _ => rfl) (fun h => !okSlr h.slr) 87 [] hs al bl ol cl _ own87 (fun h hh w u => badSlr_c h w ((hsm h hh).ext (E13.trans u))) (hl.keep E13 (fun _ h => h)) hll) (fun v20 w21 r23 => ?_))))
 obtain ⟨rfl, u22⟩ := r23
 have zu22 := u22.size
 have E24 := E13.nx u22
 refine t_assign rfl rfl rfl (t_nil' (hK19 _ _ (c_cond rfl (fun g21 => ?_) (fun g21 => ?_))))
 ·
  refine c_seq fun K25 hK25 => (c_region (t_assign rfl rfl rfl (t_assign rfl rfl rfl (t_nil' (hK25 _ _ (c_ret (f_ret2 (v1 := .pointer none) (v2 := .int .i64 2) results57 rfl rfl ?_)))))))
  exact ⟨⟨none, _, rfl, by unfold openE; rw [if_neg g15, List.length_map, if_neg (by omega), if_pos (by rw [← any_slr, g21])], fun h => absurd h (by decide)⟩, E24⟩
 refine c_seq fun K26 hK26 => (c_region (t_move rfl rfl rfl (t_len underlying55 rfl rfl rfl rfl (t_cmp rfl rfl rfl rfl rfl (t_assign rfl rfl rfl (t_nil' (hK26 _ _ (c_condp rfl (fun g24 => ?_) (fun g24 => ?_)))))))))
 ·
  refine c_seq fun K27 hK27 => (c_region (t_assign rfl rfl rfl (t_assign rfl rfl rfl (t_nil' (hK27 _ _ (c_ret (f_ret2 (v1 := .pointer none) (v2 := .int .i64 5) results57 rfl rfl ?_)))))))
  exact ⟨⟨none, _, rfl, by unfold openE; rw [if_neg g15, List.length_map, if_neg (by omega), if_neg (by rw [← any_slr, g21]; decide), if_pos (by omega)], fun h => absurd h (by decide)⟩, E24⟩
 refine c_seq fun K28 hK28 => (c_region (t_move rfl rfl rfl (t_call own88 rfl rfl rfl rfl (containsL_c encLeg (fun _ => rfl) (fun x => !okLeg x) 89 [] xs ax bx ox cx _ own89 (fun x _ w _ => badLeg_c x w) (hxs.keep E24 (fun _ h => h)) hxl) (fun v29 w30 r32 => ?_))))
 obtain ⟨rfl, u31⟩ := r32
 have zu31 := u31.size
 have E33 := E24.nx u31
 refine t_assign rfl rfl rfl (t_nil' (hK28 _ _ (c_cond rfl (fun g28 => ?_) (fun g28 => ?_))))
 ·
  refine c_seq fun K34 hK34 => (c_region (t_assign rfl rfl rfl (t_assign rfl rfl rfl (t_nil' (hK34 _ _ (c_ret (f_ret2 (v1 := .pointer none) (v2 := .int .i64 2) results57 rfl rfl ?_)))))))
  exact ⟨⟨none, _, rfl, by unfold openE; rw [if_neg g15, List.length_map, if_neg (by omega), if_neg (by rw [← any_slr, g21]; decide), if_neg (by omega), if_pos (by rw [g28])], fun h => absurd h (by decide)⟩, E33⟩
 have hoe : openE r (hs.map HS.slr) xs = 0 := by unfold openE; rw [if_neg g15, List.length_map, if_neg (by omega), if_neg (by rw [← any_slr, g21]; decide), if_neg (by omega), if_neg (by rw [g28]; decide)]
 obtain ⟨hor, hon, hos, _, _⟩ := openE_ok hoe
 refine c_skip (hK16 _ _ (c_seq fun K35 hK35 => (c_region ?_)))
 have B36 := (((B4.kx u11).kx u22).kx u31)
 refine t_loadN (vs := [.int .i64 r.rest, .int .i64 r.span, .int .i64 r.work, .int .i64 r.week, .int .i64 r.ww]) isAgg23 sizeOf23 rfl rfl rfl (B36.at.sub 0 5) rfl (t_build (ps := [(0, .agg #[.int .i64 r.rest, .int .i64 r.span, .int .i64 r.work, .int .i64 r.week, .int .i64 r.ww])]) (v := .agg #[.int .i64 r.rest, .int .i64 r.span, .int .i64 r.work, .int .i64 r.week, .int .i64 r.ww]) rfl rfl ⟨rfl, rfl⟩ (fun w => by kernel_rfl) (t_build (ps := [(0, .agg #[.int .i64 r.rest, .int .i64 r.span, .int .i64 r.work, .int .i64 r.week, .int .i64 r.ww])]) (v := .agg #[.int .i64 r.rest, .int .i64 r.span, .int .i64 r.work, .int .i64 r.week, .int .i64 r.ww, .slice none 0 0]) rfl rfl ⟨rfl, rfl⟩ (fun w => by kernel_rfl) (t_box (cs := [.int .i64 r.rest, .int .i64 r.span, .int .i64 r.work, .int .i64 r.week, .int .i64 r.ww, .slice none 0 0]) rfl rfl rfl rfl (fun bk37 w38 ebk37 sbk37 B39 u40 => ?_))))
 have zu40 := u40.size
 refine t_assign rfl rfl rfl (t_nil' (hK35 _ _ (c_seq fun K42 hK42 => (c_seq fun K43 hK43 => (c_region (t_move rfl rfl rfl (t_len underlying54 rfl rfl rfl rfl (t_move rfl rfl rfl (t_nil' (hK43 _ _ (c_block (c_loop (γ := Nat × Option Addr × Nat × Nat × List HM) (fun gg => [(9, .pointer (some ⟨bk37, 0, none⟩)), (35, .slice al hs.length cl), (36, .int .i64 (hs.length : Int)), (37, .int .i64 (gg.1 : Int))]) (fun gg w => Upd (fun i => w0.heap.size ≤ i) w38 w ∧ Blk w bk37 144 [.int .i64 r.rest, .int .i64 r.span, .int .i64 r.work, .int .i64 r.week, .int .i64 r.ww, .slice gg.2.1 gg.2.2.2.2.length gg.2.2.2.1] ∧ (gg.1 ≤ hs.length) ∧ (RowM (fun _ => False) w0.heap.size w gg.2.1 gg.2.2.1 gg.2.2.2.1 gg.2.2.2.2) ∧ (gg.2.2.2.2.map HM.mb = (hs.take gg.1).map (fun h => boardP h.slr))) (fun gg => hs.length - gg.1) (0, none, 0, 0, []) ⟨rfl, rfl, rfl, rfl, trivial⟩ ⟨Upd.refl _ _, B39, (Nat.zero_le _), ⟨Acc.nil _ _ _ _ _ (by omega) (by omega), fun m hm => (by cases hm)⟩, rfl⟩ ?_))))))))))))
 intro gg w45 hW K44 hK44
 obtain ⟨k, am, gm, cm, ms⟩ := gg
 change WC _ _ _ _ _ _ [(9, .pointer (some ⟨bk37, 0, none⟩)), (35, .slice al hs.length cl), (36, .int .i64 (hs.length : Int)), (37, .int .i64 (k : Int))] _
 change Upd (fun i => w0.heap.size ≤ i) w38 w45 ∧ Blk w45 bk37 144 [.int .i64 r.rest, .int .i64 r.span, .int .i64 r.work, .int .i64 r.week, .int .i64 r.ww, .slice am ms.length cm] ∧ (k ≤ hs.length) ∧ (RowM (fun _ => False) w0.heap.size w45 am gm cm ms) ∧ (ms.map HM.mb = (hs.take k).map (fun h => boardP h.slr)) at hW
 obtain ⟨u46, I47, I48, I49, I50⟩ := hW
 have zu46 := u46.size
 have E51 := (E33.nx u40).next u46 (fun i hi (h : w0.heap.size ≤ i) => show False by first | omega | assumption)
 have hk := I48; clear I48
 have hms := I49; clear I49
 have hmm := I50; clear I50
 have lt_gm := hms.acc.lt
 have hml : ms.length = k := by have := congrArg List.length hmm; simpa [List.length_take, Nat.min_eq_left hk] using this
 have hmc := hms.acc.lt
 have hbl := I47.lt
 have hmb : w0.heap.size ≤ gm → gm ≠ bk37 := hms.acc.neBlk I47 (by decide)
 refine c_seq fun K52 hK52 => (c_region (t_cmp rfl rfl rfl rfl rfl (t_nil' (hK52 _ _ (c_seq fun K53 hK53 => (c_condp rfl (fun g38 => ?_) (fun g38 => ?_)))))))
 ·
  have hsk := hsm (nth hs k) (nth_mem (by omega))
  have hok1 : okSlr (nth hs k).slr = true := hos _ (List.mem_map.2 ⟨_, nth_mem (by omega), rfl⟩)
  have okd : (nth hs k).ds.length ≤ 20 := (okSlr_ok hok1).2.2.1
  refine c_skip (hK53 _ _ (c_seq fun K54 hK54 => (c_block (c_seq fun K55 hK55 => (c_region ?_)))))
  have i56 : k < hs.length := (by omega)
  refine t_index (j := k) underlying54 sizeOf79 rfl rfl rfl rfl ((hl.keep E51 (fun _ h => h)).addr (by omega)) rfl i56 (t_loadN (vs := [.int .i64 ((nth hs k).f), .int .i64 ((nth hs k).u), .slice ((nth hs k).ap) ((nth hs k).ps.length) ((nth hs k).cp), .slice ((nth hs k).ad) ((nth hs k).ds.length) ((nth hs k).cd)]) isAgg79 sizeOf79 rfl rfl rfl (((hl.keep E51 (fun _ h => h)).at_ k (by omega)).sub 0 4) rfl (t_alloc (cs := [.int .i64 0, .int .i64 0, .slice none 0 0, .slice none 0 0]) zeroValue79 rfl rfl rfl (fun bk57 w58 ebk57 sbk57 B59 u60 => ?_)))
  have zu60 := u60.size
  refine t_st (vs := [.int .i64 ((nth hs k).f), .int .i64 ((nth hs k).u), .slice ((nth hs k).ap) ((nth hs k).ps.length) ((nth hs k).cp), .slice ((nth hs k).ad) ((nth hs k).ds.length) ((nth hs k).cd)]) sizeOf79 rfl rfl rfl B59 rfl rfl rfl rfl (fun w62 sw62 B64 u63 => ?_)
  have zu63 := u63.size
  have B64 : Blk w62 bk57 79 [.int .i64 ((nth hs k).f), .int .i64 ((nth hs k).u), .slice ((nth hs k).ap) ((nth hs k).ps.length) ((nth hs k).cp), .slice ((nth hs k).ad) ((nth hs k).ds.length) ((nth hs k).cd)] := B64
  refine t_nil' (hK55 _ _ (c_drawnM follows (fun i => (i = gm ∧ w0.heap.size ≤ i) ∨ i = bk37) (.look 0 (.look 1 (.look 2 (.look 3 (.look 5 (.act 4 (.act 6 (.act 7 (.act 8 (.look 9 (.look 10 (.act 11 .done .stop))) .stop) .stop) .stop) (.act 6 (.act 4 (.act 7 (.act 8 (.look 9 (.look 10 (.act 11 .done .stop))) .stop) .stop) (.act 7 (.act 4 (.act 8 (.look 9 (.look 10 (.act 11 .done .stop))) .stop) .stop) .stop)) .stop))))))) (by kernel_rfl) fun w66 u67 => ?_))
  have zu67 := u67.size
  have E68 := ((E51.nx u60).next u63 (fun i hi h => by omega)).nx u67
  refine y_move rfl rfl rfl (y_move rfl rfl rfl (y_nilchk rfl rfl rfl (y_field underlying144 rfl sizeOf142 (5) rfl rfl rfl rfl ?_)))
  have B69 := (B64.kx u67)
  refine y_loadN (vs := [.int .i64 ((nth hs k).f), .int .i64 ((nth hs k).u), .slice ((nth hs k).ap) ((nth hs k).ps.length) ((nth hs k).cp), .slice ((nth hs k).ad) ((nth hs k).ds.length) ((nth hs k).cd)]) isAgg79 sizeOf79 rfl rfl rfl (B69.at.sub 0 4) rfl (by show ¬ ((bk57 = gm ∧ w0.heap.size ≤ bk57) ∨ bk57 = bk37); first | omega | assumption) (s_or ?_ ?_)
  ·
   refine s_do ?_
   have B70 := (((I47.kx u60).keep u63 (by omega)).kx u67)
   refine t_load isAgg142 rfl rfl rfl (B70.get rfl) (s_next (Upd.refl _ _) (s_do (t_call own66 rfl rfl rfl rfl (board_c ((nth hs k).f) ((nth hs k).u) ((nth hs k).ap) ((nth hs k).ps.length) ((nth hs k).cp) ((nth hs k).ds) ((nth hs k).ad) (nth hs k).bd ((nth hs k).od) ((nth hs k).cd) _ (((hsm (nth hs k) (nth_mem (by omega))).ext E68).hd) (by omega) (by omega)) (fun v72 w73 r75 => ?_))))
   obtain ⟨⟨aoM71, gM71, cM71, rfl, haM71⟩, u74⟩ := r75
   have zu74 := u74.size
   have lt_gM71 := haM71.lt
   have D77 := ((((hms.acc.kE u60).keep u63 (fun hb => show ¬ (gm = bk57) by first | omega | assumption)).kE u67).kE u74)
   have B78 := (B70.kx u74)
   obtain ⟨gL, haL⟩ := Acc.lower (base' := w0.heap.size) haM71 (by omega) (by omega)
   have hLm : w0.heap.size ≤ gL → w0.heap.size ≤ gm → gL ≠ gm := haL.neAcc D77 (by decide)
   have hLb : w0.heap.size ≤ gL → gL ≠ bk37 := haL.neBlk B78 (by decide)
   have lt_gL := haL.lt
   refine s_next ((Upd.refl _ _).nx u74) (s_do (t_bslice (ps := [(0, .agg #[.int .i64 ((nth hs k).f), .int .i64 ((nth hs k).u), .slice ((nth hs k).ap) ((nth hs k).ps.length) ((nth hs k).cp), .slice ((nth hs k).ad) ((nth hs k).ds.length) ((nth hs k).cd), .slice aoM71 ((srtS (((nth hs k).ds).map lngS)).length) cM71])]) (cs := [.int .i64 ((nth hs k).f), .int .i64 ((nth hs k).u), .slice ((nth hs k).ap) ((nth hs k).ps.length) ((nth hs k).cp), .slice ((nth hs k).ad) ((nth hs k).ds.length) ((nth hs k).cd), .slice aoM71 ((srtS (((nth hs k).ds).map lngS)).length) cM71]) (e := 131) rfl rfl ⟨rfl, rfl⟩ (fun w => by kernel_rfl) (fun bk79 w80 ebk79 sbk79 B81 u82 => ?_)))
   have zu82 := u82.size
   refine s_next ((Upd.refl _ _).nx u82) (s_do ?_)
   have D84 := (D77.kE u82)
   refine t_append (z := .agg #[.int .i64 0, .int .i64 0, .slice none 0 0, .slice none 0 0, .slice none 0 0]) (bytes := 88) (k := 5) (base := w0.heap.size) (MKM (nth hs k) aoM71 gL cM71) underlying142 (by kernel_rfl) rfl (by decide) (fun _ => rfl) (by intro x; simp [encHM, Value.oneCell']) rfl rfl rfl rfl D84 B81 (by omega) (by omega) (by decide) (fun ao85 gb86 cp87 w88 A89 u90 gegb86 lngb86 => ?_)
   have zu90 := u90.size
   have lt_gb86 := A89.lt
   refine s_next ((Upd.refl _ _).next u90 (fun i hi (h : (i = gm ∧ w0.heap.size ≤ i)) => show w66.heap.size ≤ i ∨ ((i = gm ∧ w0.heap.size ≤ i) ∨ i = bk37) by first | omega | exact .inr h)) (y_nilchk rfl rfl rfl (y_field underlying144 rfl sizeOf142 (5) rfl rfl rfl rfl (s_do ?_)))
   have B92 := ((B78.kx u82).keep u90 (by omega))
   refine t_st (vs := [.slice ao85 (((ms ++ [MKM (nth hs k) aoM71 gL cM71])).length) cp87]) sizeOf142 rfl rfl rfl B92 rfl rfl rfl rfl (fun w93 sw93 B95 u94 => ?_)
   have zu94 := u94.size
   have B95 : Blk w93 bk37 144 [.int .i64 r.rest, .int .i64 r.span, .int .i64 r.work, .int .i64 r.week, .int .i64 r.ww, .slice ao85 (((ms ++ [MKM (nth hs k) aoM71 gL cM71])).length) cp87] := B95
   refine s_next ((Upd.refl _ _).next u94 (fun i hi (h : i = bk37) => show w66.heap.size ≤ i ∨ ((i = gm ∧ w0.heap.size ≤ i) ∨ i = bk37) by first | omega | exact .inr h)) (s_nil (hK54 _ _ (c_region (t_ari rfl rfl rfl rfl rfl (by omega) (t_move rfl rfl rfl (t_nil' ?_))))))
   have D97 := (A89.keep u94 (fun hb => show ¬ (gb86 = bk37) by first | omega | assumption))
   have D98 := (((haL.kE u82).keep u90 (fun hb => show ¬ ((gL = gm ∧ w0.heap.size ≤ gL)) by first | omega | assumption)).keep u94 (fun hb => show ¬ (gL = bk37) by first | omega | assumption))
   have uR := ((((((((Upd.refl (fun i => (i = gm ∧ w0.heap.size ≤ i) ∨ i = bk37) _).nx u60).next u63 (fun i hi (h : i = bk57) => show (i = gm ∧ w0.heap.size ≤ i) ∨ i = bk37 by omega)).nx u67).nx u74).nx u82).next u90 (fun i hi (h : (i = gm ∧ w0.heap.size ≤ i)) => show (i = gm ∧ w0.heap.size ≤ i) ∨ i = bk37 by omega)).next u94 (fun i hi (h : i = bk37) => show (i = gm ∧ w0.heap.size ≤ i) ∨ i = bk37 by omega))
   exact hK44 (k + 1, ao85, gb86, cp87, ms ++ [MKM (nth hs k) aoM71 gL cM71]) _ _ (by show hs.length - (k + 1) < hs.length - k; omega) ⟨rfl, rfl, rfl, rfl, trivial⟩ ⟨(((((((u46.nx u60).next u63 (fun i hi (h : i = bk57) => show w0.heap.size ≤ i by first | omega | assumption)).nx u67).nx u74).nx u82).next u90 (fun i hi (h : (i = gm ∧ w0.heap.size ≤ i)) => show w0.heap.size ≤ i by first | omega | assumption)).next u94 (fun i hi (h : i = bk37) => show w0.heap.size ≤ i by first | omega | assumption)), B95, (by omega), ⟨D97, fun m hm => by
     rcases List.mem_append.1 hm with q | q
     · have hq := hms.mem m q
       refine hq.upd uR (fun hp h => ?_) (fun hp h => ?_)
       · have := hq.hb hp; omega
       · rcases h with h | h
         · exact hq.ht.neAcc hms.acc (by decide) hp (by omega) h.1
         · exact hq.ht.neBlk I47 (by decide) hp h
     · rw [List.mem_singleton.1 q]; exact MKM.mem (hsk.ext ((((E68.nx u74).nx u82).next u90 (fun i hi h => by omega)).next u94 (fun i hi h => by omega))) hok1 (fun hp => hsk.hp.lt hp) (D98)⟩, (by rw [List.map_append, hmm, take_nth (by omega), List.map_append]; rfl)⟩
  refine s_do (t_call own66 rfl rfl rfl rfl (board_c ((nth hs k).f) ((nth hs k).u) ((nth hs k).ap) ((nth hs k).ps.length) ((nth hs k).cp) ((nth hs k).ds) ((nth hs k).ad) (nth hs k).bd ((nth hs k).od) ((nth hs k).cd) _ (((hsm (nth hs k) (nth_mem (by omega))).ext E68).hd) (by omega) (by omega)) (fun v100 w101 r103 => ?_))
  obtain ⟨⟨aoM99, gM99, cM99, rfl, haM99⟩, u102⟩ := r103
  have zu102 := u102.size
  have E104 := E68.nx u102
  have lt_gM99 := haM99.lt
  have D105 := ((((hms.acc.kE u60).keep u63 (fun hb => show ¬ (gm = bk57) by first | omega | assumption)).kE u67).kE u102)
  have B106 := ((((I47.kx u60).keep u63 (by omega)).kx u67).kx u102)
  obtain ⟨gL, haL⟩ := Acc.lower (base' := w0.heap.size) haM99 (by omega) (by omega)
  have hLm : w0.heap.size ≤ gL → w0.heap.size ≤ gm → gL ≠ gm := haL.neAcc D105 (by decide)
  have hLb : w0.heap.size ≤ gL → gL ≠ bk37 := haL.neBlk B106 (by decide)
  have lt_gL := haL.lt
  refine s_next ((Upd.refl _ _).nx u102) (s_or ?_ ?_)
  ·
   refine s_do (t_load isAgg142 rfl rfl rfl (B106.get rfl) (s_next (Upd.refl _ _) (s_do (t_bslice (ps := [(0, .agg #[.int .i64 ((nth hs k).f), .int .i64 ((nth hs k).u), .slice ((nth hs k).ap) ((nth hs k).ps.length) ((nth hs k).cp), .slice ((nth hs k).ad) ((nth hs k).ds.length) ((nth hs k).cd), .slice aoM99 ((srtS (((nth hs k).ds).map lngS)).length) cM99])]) (cs := [.int .i64 ((nth hs k).f), .int .i64 ((nth hs k).u), .slice ((nth hs k).ap) ((nth hs k).ps.length) ((nth hs k).cp), .slice ((nth hs k).ad) ((nth hs k).ds.length) ((nth hs k).cd), .slice aoM99 ((srtS (((nth hs k).ds).map lngS)).length) cM99]) (e := 131) rfl rfl ⟨rfl, rfl⟩ (fun w => by kernel_rfl) (fun bk107 w108 ebk107 sbk107 B109 u110 => ?_)))))
   have zu110 := u110.size
   refine s_next ((Upd.refl _ _).nx u110) (s_do ?_)
   have D112 := (D105.kE u110)
   refine t_append (z := .agg #[.int .i64 0, .int .i64 0, .slice none 0 0, .slice none 0 0, .slice none 0 0]) (bytes := 88) (k := 5) (base := w0.heap.size) (MKM (nth hs k) aoM99 gL cM99) underlying142 (by kernel_rfl) rfl (by decide) (fun _ => rfl) (by intro x; simp [encHM, Value.oneCell']) rfl rfl rfl rfl D112 B109 (by omega) (by omega) (by decide) (fun ao113 gb114 cp115 w116 A117 u118 gegb114 lngb114 => ?_)
   have zu118 := u118.size
   have lt_gb114 := A117.lt
   refine s_next ((Upd.refl _ _).next u118 (fun i hi (h : (i = gm ∧ w0.heap.size ≤ i)) => show w66.heap.size ≤ i ∨ ((i = gm ∧ w0.heap.size ≤ i) ∨ i = bk37) by first | omega | exact .inr h)) (y_nilchk rfl rfl rfl (y_field underlying144 rfl sizeOf142 (5) rfl rfl rfl rfl (s_do ?_)))
   have B120 := ((B106.kx u110).keep u118 (by omega))
   refine t_st (vs := [.slice ao113 (((ms ++ [MKM (nth hs k) aoM99 gL cM99])).length) cp115]) sizeOf142 rfl rfl rfl B120 rfl rfl rfl rfl (fun w121 sw121 B123 u122 => ?_)
   have zu122 := u122.size
   have B123 : Blk w121 bk37 144 [.int .i64 r.rest, .int .i64 r.span, .int .i64 r.work, .int .i64 r.week, .int .i64 r.ww, .slice ao113 (((ms ++ [MKM (nth hs k) aoM99 gL cM99])).length) cp115] := B123
   refine s_next ((Upd.refl _ _).next u122 (fun i hi (h : i = bk37) => show w66.heap.size ≤ i ∨ ((i = gm ∧ w0.heap.size ≤ i) ∨ i = bk37) by first | omega | exact .inr h)) (s_nil (hK54 _ _ (c_region (t_ari rfl rfl rfl rfl rfl (by omega) (t_move rfl rfl rfl (t_nil' ?_))))))
   have D125 := (A117.keep u122 (fun hb => show ¬ (gb114 = bk37) by first | omega | assumption))
   have D126 := (((haL.kE u110).keep u118 (fun hb => show ¬ ((gL = gm ∧ w0.heap.size ≤ gL)) by first | omega | assumption)).keep u122 (fun hb => show ¬ (gL = bk37) by first | omega | assumption))
   have uR := ((((((((Upd.refl (fun i => (i = gm ∧ w0.heap.size ≤ i) ∨ i = bk37) _).nx u60).next u63 (fun i hi (h : i = bk57) => show (i = gm ∧ w0.heap.size ≤ i) ∨ i = bk37 by omega)).nx u67).nx u102).nx u110).next u118 (fun i hi (h : (i = gm ∧ w0.heap.size ≤ i)) => show (i = gm ∧ w0.heap.size ≤ i) ∨ i = bk37 by omega)).next u122 (fun i hi (h : i = bk37) => show (i = gm ∧ w0.heap.size ≤ i) ∨ i = bk37 by omega))
   exact hK44 (k + 1, ao113, gb114, cp115, ms ++ [MKM (nth hs k) aoM99 gL cM99]) _ _ (by show hs.length - (k + 1) < hs.length - k; omega) ⟨rfl, rfl, rfl, rfl, trivial⟩ ⟨(((((((u46.nx u60).next u63 (fun i hi (h : i = bk57) => show w0.heap.size ≤ i by first | omega | assumption)).nx u67).nx u102).nx u110).next u118 (fun i hi (h : (i = gm ∧ w0.heap.size ≤ i)) => show w0.heap.size ≤ i by first | omega | assumption)).next u122 (fun i hi (h : i = bk37) => show w0.heap.size ≤ i by first | omega | assumption)), B123, (by omega), ⟨D125, fun m hm => by
     rcases List.mem_append.1 hm with q | q
     · have hq := hms.mem m q
       refine hq.upd uR (fun hp h => ?_) (fun hp h => ?_)
       · have := hq.hb hp; omega
       · rcases h with h | h
         · exact hq.ht.neAcc hms.acc (by decide) hp (by omega) h.1
         · exact hq.ht.neBlk I47 (by decide) hp h
     · rw [List.mem_singleton.1 q]; exact MKM.mem (hsk.ext (((E104.nx u110).next u118 (fun i hi h => by omega)).next u122 (fun i hi h => by omega))) hok1 (fun hp => hsk.hp.lt hp) (D126)⟩, (by rw [List.map_append, hmm, take_nth (by omega), List.map_append]; rfl)⟩
  refine s_do (t_bslice (ps := [(0, .agg #[.int .i64 ((nth hs k).f), .int .i64 ((nth hs k).u), .slice ((nth hs k).ap) ((nth hs k).ps.length) ((nth hs k).cp), .slice ((nth hs k).ad) ((nth hs k).ds.length) ((nth hs k).cd), .slice aoM99 ((srtS (((nth hs k).ds).map lngS)).length) cM99])]) (cs := [.int .i64 ((nth hs k).f), .int .i64 ((nth hs k).u), .slice ((nth hs k).ap) ((nth hs k).ps.length) ((nth hs k).cp), .slice ((nth hs k).ad) ((nth hs k).ds.length) ((nth hs k).cd), .slice aoM99 ((srtS (((nth hs k).ds).map lngS)).length) cM99]) (e := 131) rfl rfl ⟨rfl, rfl⟩ (fun w => by kernel_rfl) (fun bk127 w128 ebk127 sbk127 B129 u130 => ?_))
  have zu130 := u130.size
  refine s_next ((Upd.refl _ _).nx u130) (s_do ?_)
  have B132 := (B106.kx u130)
  refine t_load isAgg142 rfl rfl rfl (B132.get rfl) (s_next (Upd.refl _ _) (s_do ?_))
  have D133 := (D105.kE u130)
  refine t_append (z := .agg #[.int .i64 0, .int .i64 0, .slice none 0 0, .slice none 0 0, .slice none 0 0]) (bytes := 88) (k := 5) (base := w0.heap.size) (MKM (nth hs k) aoM99 gL cM99) underlying142 (by kernel_rfl) rfl (by decide) (fun _ => rfl) (by intro x; simp [encHM, Value.oneCell']) rfl rfl rfl rfl D133 B129 (by omega) (by omega) (by decide) (fun ao134 gb135 cp136 w137 A138 u139 gegb135 lngb135 => ?_)
  have zu139 := u139.size
  have lt_gb135 := A138.lt
  refine s_next ((Upd.refl _ _).next u139 (fun i hi (h : (i = gm ∧ w0.heap.size ≤ i)) => show w66.heap.size ≤ i ∨ ((i = gm ∧ w0.heap.size ≤ i) ∨ i = bk37) by first | omega | exact .inr h)) (y_nilchk rfl rfl rfl (y_field underlying144 rfl sizeOf142 (5) rfl rfl rfl rfl (s_do ?_)))
  have B141 := (B132.keep u139 (by omega))
  refine t_st (vs := [.slice ao134 (((ms ++ [MKM (nth hs k) aoM99 gL cM99])).length) cp136]) sizeOf142 rfl rfl rfl B141 rfl rfl rfl rfl (fun w142 sw142 B144 u143 => ?_)
  have zu143 := u143.size
  have B144 : Blk w142 bk37 144 [.int .i64 r.rest, .int .i64 r.span, .int .i64 r.work, .int .i64 r.week, .int .i64 r.ww, .slice ao134 (((ms ++ [MKM (nth hs k) aoM99 gL cM99])).length) cp136] := B144
  refine s_next ((Upd.refl _ _).next u143 (fun i hi (h : i = bk37) => show w66.heap.size ≤ i ∨ ((i = gm ∧ w0.heap.size ≤ i) ∨ i = bk37) by first | omega | exact .inr h)) (s_nil (hK54 _ _ (c_region (t_ari rfl rfl rfl rfl rfl (by omega) (t_move rfl rfl rfl (t_nil' ?_))))))
  have D146 := (A138.keep u143 (fun hb => show ¬ (gb135 = bk37) by first | omega | assumption))
  have D147 := (((haL.kE u130).keep u139 (fun hb => show ¬ ((gL = gm ∧ w0.heap.size ≤ gL)) by first | omega | assumption)).keep u143 (fun hb => show ¬ (gL = bk37) by first | omega | assumption))
  have uR := ((((((((Upd.refl (fun i => (i = gm ∧ w0.heap.size ≤ i) ∨ i = bk37) _).nx u60).next u63 (fun i hi (h : i = bk57) => show (i = gm ∧ w0.heap.size ≤ i) ∨ i = bk37 by omega)).nx u67).nx u102).nx u130).next u139 (fun i hi (h : (i = gm ∧ w0.heap.size ≤ i)) => show (i = gm ∧ w0.heap.size ≤ i) ∨ i = bk37 by omega)).next u143 (fun i hi (h : i = bk37) => show (i = gm ∧ w0.heap.size ≤ i) ∨ i = bk37 by omega))
  exact hK44 (k + 1, ao134, gb135, cp136, ms ++ [MKM (nth hs k) aoM99 gL cM99]) _ _ (by show hs.length - (k + 1) < hs.length - k; omega) ⟨rfl, rfl, rfl, rfl, trivial⟩ ⟨(((((((u46.nx u60).next u63 (fun i hi (h : i = bk57) => show w0.heap.size ≤ i by first | omega | assumption)).nx u67).nx u102).nx u130).next u139 (fun i hi (h : (i = gm ∧ w0.heap.size ≤ i)) => show w0.heap.size ≤ i by first | omega | assumption)).next u143 (fun i hi (h : i = bk37) => show w0.heap.size ≤ i by first | omega | assumption)), B144, (by omega), ⟨D146, fun m hm => by
    rcases List.mem_append.1 hm with q | q
    · have hq := hms.mem m q
      refine hq.upd uR (fun hp h => ?_) (fun hp h => ?_)
      · have := hq.hb hp; omega
      · rcases h with h | h
        · exact hq.ht.neAcc hms.acc (by decide) hp (by omega) h.1
        · exact hq.ht.neBlk I47 (by decide) hp h
    · rw [List.mem_singleton.1 q]; exact MKM.mem (hsk.ext (((E104.nx u130).next u139 (fun i hi h => by omega)).next u143 (fun i hi h => by omega))) hok1 (fun hp => hsk.hp.lt hp) (D147)⟩, (by rw [List.map_append, hmm, take_nth (by omega), List.map_append]; rfl)⟩
 refine c_exit (hK42 _ _ (c_seq fun K148 hK148 => (c_region (t_move rfl rfl rfl (t_assign rfl rfl rfl (t_assign rfl rfl rfl (t_nil' (hK148 _ _ (c_ret (f_ret2 (v1 := .pointer (some ⟨bk37, 0, none⟩)) (v2 := .int .i64 0) results57 rfl rfl ?_))))))))))
 exact ⟨⟨_, 0, rfl, hoe.symm, fun _ => ⟨bk37, am, gm, cm, ms, rfl, by omega, I47, hms.ext (Upd.refl _ _), by rw [hmm, show k = hs.length by omega, List.take_length]⟩⟩, E51⟩

end Go.Proofs.YtagmodjadmecdaaGreat
