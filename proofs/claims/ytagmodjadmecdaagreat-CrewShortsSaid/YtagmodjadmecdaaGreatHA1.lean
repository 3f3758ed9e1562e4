/-
  Contracts of the small functions of package crew. Conditions: none.
-/
import Derived.Test.YtagmodjadmecdaaGreatHPure
import Derived.Test.YtagmodjadmecdaaGreatHEq
import Derived.Test.YtagmodjadmecdaaGreatHGr
import Derived.Test.YtagmodjadmecdaaGreatHIns
import Derived.Test.YtagmodjadmecdaaGreatHUnr
import Derived.Test.YtagmodjadmecdaaGreatProg
namespace Go.Proofs.YtagmodjadmecdaaGreat
open Go Go.RowKit Tryz

structure Sp where
  b : Int
  e : Int
instance : Inhabited Sp := ⟨⟨default, default⟩⟩
structure Dty where
  bl : Int
  bh : Int
  el : Int
  eh : Int
instance : Inhabited Dty := ⟨⟨default, default, default, default⟩⟩
structure Rul where
  rest : Int
  span : Int
  work : Int
  week : Int
  ww : Int
instance : Inhabited Rul := ⟨⟨default, default, default, default, default⟩⟩
structure Shf where
  b : Int
  e : Int
  w : Int
instance : Inhabited Shf := ⟨⟨default, default, default⟩⟩
def encSp (x : Sp) : List Value := [.int .i64 x.b, .int .i64 x.e]
def encDty (x : Dty) : List Value := [.int .i64 x.bl, .int .i64 x.bh, .int .i64 x.el, .int .i64 x.eh]
def encShf (x : Shf) : List Value := [.int .i64 x.b, .int .i64 x.e, .int .i64 x.w]
def okRul (r : Rul) : Bool := decide ((1 ≤ r.rest ∧ r.rest ≤ 20160) ∧ (1 ≤ r.span ∧ r.span ≤ 20160) ∧ (1 ≤ r.work ∧ r.work ≤ 20160) ∧ (1 ≤ r.week ∧ r.week ≤ 20160) ∧ (1 ≤ r.ww ∧ r.ww ≤ 20160))
def okDty (d : Dty) : Bool := decide (((0 ≤ d.bl ∧ d.bl ≤ 20160) ∧ (0 ≤ d.bh ∧ d.bh ≤ 20160) ∧ (0 ≤ d.el ∧ d.el ≤ 20160) ∧ (0 ≤ d.eh ∧ d.eh ≤ 20160)) ∧ d.bl ≤ d.bh ∧ d.bh ≤ d.el ∧ d.el ≤ d.eh)
def chkR (r : Rul) : Int := if okRul r = true then 0 else 2
def chkD (l : List Dty) : Int := if 20 < l.length then 5 else if (l.any fun d => !okDty d) = true then 2 else 0
def chkRD (r : Rul) (l : List Dty) : Int := if chkR r ≠ 0 then chkR r else chkD l
def lngS (d : Dty) : Sp := ⟨d.bl, d.eh⟩
def shtS (d : Dty) : Sp := ⟨d.bh, d.el⟩
def OkSp (s : Sp) : Prop := 0 ≤ s.b ∧ s.b ≤ s.e ∧ s.e ≤ 20160
theorem lng_ok {d : Dty} (h : okDty d = true) : OkSp (lngS d) := by simp only [okDty, decide_eq_true_eq] at h; unfold OkSp lngS; simp only []; omega
theorem sht_ok {d : Dty} (h : okDty d = true) : OkSp (shtS d) := by simp only [okDty, decide_eq_true_eq] at h; unfold OkSp shtS; simp only []; omega
def LtS (x y : Sp) : Prop := x.b < y.b ∨ (x.b = y.b ∧ x.e < y.e)
instance (x y : Sp) : Decidable (LtS x y) := inferInstanceAs (Decidable (_ ∨ _))
def cmpS (x y : Sp) : Int := if x.b < y.b then -1 else if y.b < x.b then 1 else if x.e < y.e then -1 else if y.e < x.e then 1 else 0
theorem cmp_neg {x y : Sp} : cmpS x y < 0 ↔ LtS x y := by unfold cmpS LtS; split <;> (try split) <;> (try split) <;> (try split) <;> omega
def insS (s : Sp) : List Sp → List Sp
  | [] => [s]
  | x :: l => if LtS x s then x :: insS s l else s :: x :: l
def srtS (l : List Sp) : List Sp := l.foldr insS []
def Srt (l : List Sp) : Prop := l.Pairwise (fun x y => ¬ LtS y x)
theorem ins_perm (s : Sp) : ∀ l, (insS s l).Perm (s :: l)
  | [] => List.Perm.refl _
  | x :: l => by
    unfold insS
    split
    · exact ((ins_perm s l).cons x).trans (List.Perm.swap s x l)
    · exact List.Perm.refl _
theorem srt_perm : ∀ l, (srtS l).Perm l
  | [] => List.Perm.refl _
  | x :: l => (ins_perm x (srtS l)).trans ((srt_perm l).cons x)
theorem ins_srt {s : Sp} : ∀ {l}, Srt l → Srt (insS s l)
  | [], _ => List.pairwise_singleton _ _
  | x :: l, h => by
    have hx : ∀ {y}, y ∈ l → ¬ LtS y x := fun hy => List.rel_of_pairwise_cons h hy
    have ih := ins_srt (s := s) (List.Pairwise.of_cons h)
    unfold insS
    split
    · rename_i q
      refine List.Pairwise.cons (fun y hy => ?_) ih
      rcases List.mem_cons.1 ((ins_perm s l).mem_iff.1 hy) with e | hy
      · subst e; unfold LtS at q ⊢; omega
      · exact hx hy
    · rename_i q
      refine List.Pairwise.cons (fun y hy => ?_) h
      rcases List.mem_cons.1 hy with e | hy
      · subst e; exact q
      · have := hx hy; unfold LtS at q this ⊢; omega
theorem srt_srt : ∀ l, Srt (srtS l)
  | [] => List.Pairwise.nil
  | x :: l => ins_srt (srt_srt l)
theorem srt_unique : ∀ {a b : List Sp}, Srt a → Srt b → a.Perm b → a = b
  | [], b, _, _, h => (List.nil_perm.1 h).symm
  | x :: a, [], _, _, h => absurd (List.perm_nil.1 h) (by simp)
  | x :: a, y :: b, ha, hb, h => by
    have e : x = y := by
      have h1 : x ∈ y :: b := h.mem_iff.1 (by simp)
      have h2 : y ∈ x :: a := h.mem_iff.2 (by simp)
      have q1 : ¬ LtS x y := by
        rcases List.mem_cons.1 h1 with e | h1
        · subst e; unfold LtS; omega
        · exact List.rel_of_pairwise_cons hb h1
      have q2 : ¬ LtS y x := by
        rcases List.mem_cons.1 h2 with e | h2
        · subst e; unfold LtS; omega
        · exact List.rel_of_pairwise_cons ha h2
      unfold LtS at q1 q2
      cases x; cases y
      simp only [Sp.mk.injEq]
      simp only [] at q1 q2
      omega
    subst e
    rw [srt_unique (List.Pairwise.of_cons ha) (List.Pairwise.of_cons hb) (List.Perm.cons_inv h)]
theorem srt_eq {a l : List Sp} (h : Srt a) (hp : a.Perm l) : a = srtS l := srt_unique h (srt_srt l) (hp.trans (srt_perm l).symm)
theorem ins_srtS (s : Sp) (l : List Sp) : insS s (srtS l) = srtS (l ++ [s]) := srt_eq (ins_srt (srt_srt l)) ((ins_perm s _).trans (((srt_perm l).cons s).trans (List.perm_append_comm (l₁ := [s]))))
theorem ins_len (s : Sp) (l : List Sp) : (insS s l).length = l.length + 1 := (ins_perm s l).length_eq
theorem srt_len (l : List Sp) : (srtS l).length = l.length := (srt_perm l).length_eq
theorem ins_ok {s : Sp} {l : List Sp} (hs : OkSp s) (h : ∀ x ∈ l, OkSp x) : ∀ x ∈ insS s l, OkSp x := fun x hx => by
  rcases List.mem_cons.1 ((ins_perm s l).mem_iff.1 hx) with e | hx
  · rw [e]; exact hs
  · exact h x hx
theorem srt_ok {l : List Sp} (h : ∀ x ∈ l, OkSp x) : ∀ x ∈ srtS l, OkSp x := fun x hx => h x ((srt_perm l).mem_iff.1 hx)
theorem ins_at {s : Sp} : ∀ {l : List Sp} {k : Nat}, k ≤ l.length → (∀ j, j < k → LtS (nth l j) s) → (k < l.length → ¬ LtS (nth l k) s) → insS s l = l.take k ++ s :: l.drop k
  | [], k, hk, _, _ => by
    have : k = 0 := by simpa using hk
    subst this; rfl
  | x :: l, 0, _, _, h => by
    have : ¬ LtS x s := h (by simp)
    unfold insS
    rw [if_neg this]; rfl
  | x :: l, k + 1, hk, h1, h2 => by
    have hx : LtS x s := h1 0 (by omega)
    unfold insS
    rw [if_pos hx, ins_at (k := k) (by simpa using hk) (fun j hj => h1 (j + 1) (by omega)) (fun h => h2 (by simpa using h))]
    rfl
theorem srt_below {s : Sp} {l : List Sp} (h : Srt l) {k : Nat} (hk : k ≤ l.length) (hl : 0 < k → LtS (nth l (k - 1)) s) : ∀ j, j < k → LtS (nth l j) s := fun j hj => by
  have h1 := hl (by omega)
  rcases Nat.lt_or_ge j (k - 1) with q | q
  · have := List.pairwise_iff_getElem.1 h j (k - 1) (by omega) (by omega) q
    rw [← nth_eq, ← nth_eq] at this
    unfold LtS at this h1 ⊢; omega
  · rwa [show j = k - 1 by omega]
def shGo (r : Rul) (x : Shf) : List Sp → List Shf
  | [] => [x]
  | s :: l => if s.b < x.e + r.rest then shGo r ⟨x.b, max x.e s.e, x.w + (s.e - s.b)⟩ l else x :: shGo r ⟨s.b, s.e, s.e - s.b⟩ l
def shiftsP (r : Rul) : List Sp → List Shf
  | [] => []
  | s :: l => shGo r ⟨s.b, s.e, s.e - s.b⟩ l
theorem sh_first {r : Rul} {s : Sp} {l : List Sp} (hr : 1 ≤ r.rest) : shGo r ⟨s.b, s.e, 0⟩ (s :: l) = shiftsP r (s :: l) ∨ ¬ s.b ≤ s.e := by
  by_cases h : s.b ≤ s.e
  · left
    unfold shiftsP
    rw [shGo, if_pos (by show s.b < s.e + r.rest; omega)]
    show shGo r ⟨s.b, max s.e s.e, 0 + (s.e - s.b)⟩ l = _
    rw [Int.max_self, Int.zero_add]
  · exact .inr h
def sumI2 : List Int → Int
  | [] => 0
  | x :: l => x + sumI2 l
theorem sumI2_app (a b : List Int) : sumI2 (a ++ b) = sumI2 a + sumI2 b := by
  induction a with
  | nil => simp [sumI2]
  | cons x a ih => simp only [List.cons_append, sumI2, ih]; omega
theorem sumI2_snoc (a : List Int) (x : Int) : sumI2 (a ++ [x]) = sumI2 a + x := by rw [sumI2_app]; simp [sumI2]
def inW (s : Sp) (a b : Int) : Int := max 0 (min s.e b - max s.b a)
def winP (r : Rul) (l : List Sp) (t : Int) : Int := sumI2 (l.map fun s => inW s (t - r.week) t)
def ovlP (e : Int) : List Sp → Bool
  | [] => false
  | s :: l => decide (s.b < e) || ovlP (max e s.e) l
def brokP (r : Rul) (l : List Sp) : Int :=
  if ovlP 0 l = true then 1 else if ((shiftsP r l).any fun x => decide (r.span < x.e - x.b)) = true then 2 else if ((shiftsP r l).any fun x => decide (r.work < x.w)) = true then 3 else if (l.any fun s => decide (r.ww < winP r l s.e)) = true then 4 else 0

theorem any_snoc {α : Type} [Inhabited α] {p : α → Bool} {xs : List α} {k : Nat} (hk : k < xs.length) (h : (xs.take k).any p = false) (hx : p (nth xs k) = false) : (xs.take (k + 1)).any p = false := by
  rw [take_nth hk, List.any_append, h]; simp [hx]
theorem any_hit {α : Type} [Inhabited α] {p : α → Bool} {xs : List α} {k : Nat} (hk : k < xs.length) (hx : p (nth xs k) = true) : decide ((0 : Int) ≤ (k : Int)) = xs.any p := by
  have : xs.any p = true := List.any_eq_true.2 ⟨nth xs k, nth_mem hk, hx⟩
  rw [this]; simp
theorem any_none {α : Type} {p : α → Bool} {xs : List α} {k : Nat} (hk : xs.length ≤ k) (h : (xs.take k).any p = false) : decide ((0 : Int) ≤ -1) = xs.any p := by
  rw [List.take_of_length_le hk] at h; rw [h]; decide
theorem not_any_out (lo hi : Int) (xs : List Int) : (!(xs.any fun n => decide (n < lo ∨ hi < n))) = decide (∀ n ∈ xs, lo ≤ n ∧ n ≤ hi) := by
  rw [Bool.eq_iff_iff]
  simp only [Bool.not_eq_true', List.any_eq_false, decide_eq_true_eq]
  exact ⟨fun h n hn => by have := h n hn; omega, fun h n hn => by have := h n hn; omega⟩
def encI (n : Int) : List Value := [.int .i64 n]
theorem SlI.own {w : World} {b : Nat} {t : TypeId} {xs : List Int} (h : Blk w b t (xs.map (Value.int .i64))) : Sl encI 1 w (some ⟨b, 0, none⟩) b 0 xs :=
  ⟨fun _ => rfl, fun _ => h.lt, fun i hi j v hv => by
    cases j with
    | zero =>
      rw [nth_eq hi] at hv
      simp [encI] at hv
      subst hv
      exact h.get (off := 0 + i * 1 + 0) (by simp [hi])
    | succ j => simp [encI] at hv⟩

def cmpI3 (m n : Int) : Int := if m < n then -1 else if n < m then 1 else 0
def orI (a b : Int) : Int := if a ≠ 0 then a else b
theorem cmpS_eq (x y : Sp) : orI (cmpI3 x.b y.b) (cmpI3 x.e y.e) = cmpS x y := by
  unfold orI cmpI3 cmpS
  by_cases h1 : x.b < y.b
  · simp [h1]
  · by_cases h2 : y.b < x.b
    · simp [h1, h2]
    · simp [h1, h2]

theorem follows : Tryz.prog.follows .mixedOrders = true := by kernel_rfl

theorem own10 : Own Tryz.prog 10 := ⟨Tryz.f10, func10, by kernel_rfl, by kernel_rfl⟩
theorem own43 : Own Tryz.prog 43 := ⟨Tryz.f43, func43, by kernel_rfl, by kernel_rfl⟩
theorem own44 : Own Tryz.prog 44 := ⟨Tryz.f44, func44, by kernel_rfl, by kernel_rfl⟩
theorem own48 : Own Tryz.prog 48 := ⟨Tryz.f48, func48, by kernel_rfl, by kernel_rfl⟩
theorem own50 : Own Tryz.prog 50 := ⟨Tryz.f50, func50, by kernel_rfl, by kernel_rfl⟩
theorem own74 : Own Tryz.prog 74 := ⟨Tryz.f74, func74, by kernel_rfl, by kernel_rfl⟩
theorem own75 : Own Tryz.prog 75 := ⟨Tryz.f75, func75, by kernel_rfl, by kernel_rfl⟩
theorem own76 : Own Tryz.prog 76 := ⟨Tryz.f76, func76, by kernel_rfl, by kernel_rfl⟩
theorem own79 : Own Tryz.prog 79 := ⟨Tryz.f79, func79, by kernel_rfl, by kernel_rfl⟩
theorem own81 : Own Tryz.prog 81 := ⟨Tryz.f81, func81, by kernel_rfl, by kernel_rfl⟩
theorem own85 : Own Tryz.prog 85 := ⟨Tryz.f85, func85, by kernel_rfl, by kernel_rfl⟩
theorem own95 : Own Tryz.prog 95 := ⟨Tryz.f95, func95, by kernel_rfl, by kernel_rfl⟩
theorem own100 : Own Tryz.prog 100 := ⟨Tryz.f100, func100, by kernel_rfl, by kernel_rfl⟩
theorem own101 : Own Tryz.prog 101 := ⟨Tryz.f101, func101, by kernel_rfl, by kernel_rfl⟩
theorem own102 : Own Tryz.prog 102 := ⟨Tryz.f102, func102, by kernel_rfl, by kernel_rfl⟩
theorem own105 : Own Tryz.prog 105 := ⟨Tryz.f105, func105, by kernel_rfl, by kernel_rfl⟩
theorem own106 : Own Tryz.prog 106 := ⟨Tryz.f106, func106, by kernel_rfl, by kernel_rfl⟩
theorem own114 : Own Tryz.prog 114 := ⟨Tryz.f114, func114, by kernel_rfl, by kernel_rfl⟩
theorem own125 : Own Tryz.prog 125 := ⟨Tryz.f125, func125, by kernel_rfl, by kernel_rfl⟩

theorem isNaN_c (m : Int) (w0 : World) :
    CallsV Tryz.prog 125 [.int .i64 m] w0 (fun v w' => (v = .bool false ∧ Gr w0 w') ∧ Ext w0 w') := by
 refine f_enter (N := 6) func125 rfl rfl rfl (c_seq fun K1 hK1 => (c_region (t_assign rfl rfl rfl (t_nil' (hK1 _ _ (c_seq fun K2 hK2 => (c_region (t_move rfl rfl rfl (t_move rfl rfl rfl (t_cmp rfl rfl rfl rfl rfl (t_samehd (v := .bool false) (by simp) (t_assign rfl rfl rfl (t_nil' (hK2 _ _ (c_ret (f_ret1 (v := .bool false) results125 rfl ?_))))))))))))))))
 exact ⟨⟨rfl, Gr.refl _⟩, (Upd.refl (fun _ => False) w0)⟩

theorem cmpI_c (m n : Int) (w0 : World) :
    CallsV Tryz.prog 106 [.int .i64 m, .int .i64 n] w0 (fun v w' => (v = .int .i64 (cmpI3 m n) ∧ Gr w0 w') ∧ Ext w0 w') := by
 refine f_enter (N := 20) func106 rfl rfl rfl (c_seq fun K1 hK1 => (c_region (t_assign rfl rfl rfl (t_nil' (hK1 _ _ (c_seq fun K2 hK2 => (c_region (t_move rfl rfl rfl (t_call own125 rfl rfl rfl rfl (isNaN_c m _) (fun v3 w4 r6 => ?_))))))))))
 obtain ⟨⟨rfl, Gu5⟩, u5⟩ := r6
 have zu5 := u5.size
 refine t_assign rfl rfl rfl (t_nil' (hK2 _ _ (c_seq fun K8 hK8 => (c_region (t_move rfl rfl rfl (t_call own125 rfl rfl rfl rfl (isNaN_c n _) (fun v9 w10 r12 => ?_)))))))
 obtain ⟨⟨rfl, Gu11⟩, u11⟩ := r12
 have zu11 := u11.size
 have E13 := ((Upd.refl (fun _ => False) w0).nx u5).nx u11
 refine t_assign rfl rfl rfl (t_nil' (hK8 _ _ (c_seq fun K14 hK14 => (c_seq fun K15 hK15 => (c_region (t_move rfl rfl rfl (t_nil' (hK15 _ _ (c_cond_f rfl (c_skip (hK14 _ _ (c_seq fun K16 hK16 => (c_seq fun K17 hK17 => (c_region (t_move rfl rfl rfl (t_nil' (hK17 _ _ (c_cond_f rfl (c_skip (hK16 _ _ (c_seq fun K18 hK18 => (c_seq fun K19 hK19 => (c_region ?_)))))))))))))))))))))))
 refine t_move rfl rfl rfl (t_move rfl rfl rfl (t_cmp rfl rfl rfl rfl rfl (t_nil' (hK19 _ _ (c_condp rfl (fun g16 => ?_) (fun g16 => ?_))))))
 ·
  refine c_seq fun K20 hK20 => (c_region (t_assign rfl rfl rfl (t_nil' (hK20 _ _ (c_ret (f_ret1 (v := .int .i64 (-1)) results106 rfl ?_))))))
  exact ⟨⟨congrArg (Value.int .i64) (by unfold cmpI3; rw [if_pos g16]), (((Gr.refl _).trans Gu5).trans Gu11)⟩, E13⟩
 refine c_skip (hK18 _ _ (c_seq fun K21 hK21 => (c_seq fun K22 hK22 => (c_region (t_move rfl rfl rfl (t_move rfl rfl rfl (t_cmp rfl rfl rfl rfl rfl (t_nil' (hK22 _ _ (c_condp rfl (fun g19 => ?_) (fun g19 => ?_)))))))))))
 ·
  refine c_seq fun K23 hK23 => (c_region (t_assign rfl rfl rfl (t_nil' (hK23 _ _ (c_ret (f_ret1 (v := .int .i64 1) results106 rfl ?_))))))
  exact ⟨⟨congrArg (Value.int .i64) (by unfold cmpI3; rw [if_neg g16, if_pos g19]), (((Gr.refl _).trans Gu5).trans Gu11)⟩, E13⟩
 refine c_skip (hK21 _ _ (c_seq fun K24 hK24 => (c_region (t_assign rfl rfl rfl (t_nil' (hK24 _ _ (c_ret (f_ret1 (v := .int .i64 0) results106 rfl ?_))))))))
 exact ⟨⟨congrArg (Value.int .i64) (by unfold cmpI3; rw [if_neg g16, if_neg g19]), (((Gr.refl _).trans Gu5).trans Gu11)⟩, E13⟩

theorem orI_c (m n : Int) (b : Nat) (w0 : World) (hb : Blk w0 b 3 [.int .i64 m, .int .i64 n]) :
    CallsV Tryz.prog 105 [.slice (some ⟨b, 0, none⟩) 2 2] w0 (fun v w' => (v = .int .i64 (orI m n) ∧ Gr w0 w') ∧ Ext w0 w') := by
 have E0 := Upd.refl (fun _ => False) w0
 refine f_enter (N := 18) func105 rfl rfl rfl (c_seq fun K1 hK1 => (c_region (t_assign rfl rfl rfl (t_nil' (hK1 _ _ (c_seq fun K2 hK2 => (c_region (t_assign rfl rfl rfl (t_nil' (hK2 _ _ (c_seq fun K3 hK3 => (c_seq fun K4 hK4 => (c_region (t_move rfl rfl rfl (t_len underlying60 rfl rfl rfl rfl (t_move rfl rfl rfl (t_nil' (hK4 _ _ (c_block (c_rounds 3 (WR.weak [(3, .int .i64 0), (6, .slice (some ⟨b, 0, none⟩) 2 2), (7, .int .i64 2), (8, .int .i64 0)] ⟨rfl, rfl, rfl, rfl, trivial⟩ (r_round fun K5 hK5 => (c_seq fun K6 hK6 => ?_)))))))))))))))))))))))
 refine c_region (t_cmp rfl rfl rfl rfl rfl (t_samehd (v := .bool true) rfl (t_nil' (hK6 _ _ (c_seq fun K7 hK7 => (c_cond_t rfl (c_skip (hK7 _ _ (c_seq fun K8 hK8 => (c_block (c_seq fun K9 hK9 => (c_region (t_index (j := 0) underlying60 sizeOf3 rfl rfl rfl rfl rfl rfl (by omega) (t_load isAgg3 rfl rfl rfl (hb.get rfl) (t_assign rfl rfl rfl (t_nil' (hK9 _ _ (c_seq fun K10 hK10 => (c_region (t_move rfl rfl rfl (t_move rfl rfl rfl (t_cmp rfl rfl rfl rfl rfl (t_nil' ?_)))))))))))))))))))))))
 refine hK10 _ _ (c_condp rfl (fun g14 => ?_) (fun g14 => ?_))
 ·
  refine c_seq fun K11 hK11 => (c_region (t_move rfl rfl rfl (t_assign rfl rfl rfl (t_nil' (hK11 _ _ (c_ret (f_ret1 (v := .int .i64 m) results105 rfl ?_)))))))
  exact ⟨⟨congrArg (Value.int .i64) (by unfold orI; split <;> omega), (Gr.refl _)⟩, E0⟩
 refine c_skip (hK8 _ _ (c_region (t_ari rfl rfl rfl rfl rfl (by omega) (t_samehd (v := .int .i64 1) rfl (t_move rfl rfl rfl (t_nil' (hK5 _ _ (WR.weak [(3, .int .i64 0), (6, .slice (some ⟨b, 0, none⟩) 2 2), (7, .int .i64 2), (8, .int .i64 1)] ⟨rfl, rfl, rfl, rfl, trivial⟩ (r_round fun K12 hK12 => (c_seq fun K13 hK13 => (c_region (t_cmp rfl rfl rfl rfl rfl (t_samehd (v := .bool true) rfl (t_nil' (hK13 _ _ (c_seq fun K14 hK14 => (c_cond_t rfl (c_skip (hK14 _ _ (c_seq fun K15 hK15 => (c_block (c_seq fun K16 hK16 => (c_region ?_)))))))))))))))))))))))
 refine t_index (j := 1) underlying60 sizeOf3 rfl rfl rfl rfl rfl rfl (by omega) (t_load isAgg3 rfl rfl rfl (hb.get rfl) (t_assign rfl rfl rfl (t_nil' (hK16 _ _ (c_seq fun K17 hK17 => (c_region (t_move rfl rfl rfl (t_move rfl rfl rfl (t_cmp rfl rfl rfl rfl rfl (t_nil' (hK17 _ _ (c_condp rfl (fun g14 => ?_) (fun g14 => ?_)))))))))))))
 ·
  refine c_seq fun K18 hK18 => (c_region (t_move rfl rfl rfl (t_assign rfl rfl rfl (t_nil' (hK18 _ _ (c_ret (f_ret1 (v := .int .i64 n) results105 rfl ?_)))))))
  exact ⟨⟨congrArg (Value.int .i64) (by unfold orI; split <;> omega), (Gr.refl _)⟩, E0⟩
 refine c_skip (hK15 _ _ (c_region (t_ari rfl rfl rfl rfl rfl (by omega) (t_samehd (v := .int .i64 2) rfl (t_move rfl rfl rfl (t_nil' (hK12 _ _ (WR.weak [(3, .int .i64 0), (6, .slice (some ⟨b, 0, none⟩) 2 2), (7, .int .i64 2), (8, .int .i64 2)] ⟨rfl, rfl, rfl, rfl, trivial⟩ (r_round fun K19 hK19 => (c_seq fun K20 hK20 => (c_region (t_cmp rfl rfl rfl rfl rfl (t_samehd (v := .bool false) rfl (t_nil' (hK20 _ _ (c_seq fun K21 hK21 => (c_cond_f rfl (c_exit (hK3 _ _ (c_seq fun K22 hK22 => (c_region (t_move rfl rfl rfl (t_assign rfl rfl rfl ?_)))))))))))))))))))))))
 refine t_nil' (hK22 _ _ (c_ret (f_ret1 (v := .int .i64 0) results105 rfl ?_)))
 exact ⟨⟨congrArg (Value.int .i64) (by unfold orI; split <;> omega), (Gr.refl _)⟩, E0⟩

theorem compare_c (x y : Sp) (w0 : World) :
    CallsV Tryz.prog 81 [.agg #[.int .i64 x.b, .int .i64 x.e], .agg #[.int .i64 y.b, .int .i64 y.e]] w0 (fun v w' => (v = .int .i64 (cmpS x y) ∧ Gr w0 w') ∧ Ext w0 w') := by
 refine f_enter (N := 17) func81 rfl rfl rfl (c_seq fun K1 hK1 => (c_region (t_boxG (cs := [.int .i64 x.b, .int .i64 x.e]) rfl rfl rfl rfl (fun bk2 w3 ebk2 sbk2 B4 u5 Gu5 => ?_))))
 have zu5 := u5.size
 refine t_boxG (cs := [.int .i64 y.b, .int .i64 y.e]) rfl rfl rfl rfl (fun bk7 w8 ebk7 sbk7 B9 u10 Gu10 => ?_)
 have zu10 := u10.size
 refine t_assign rfl rfl rfl (t_nil' (hK1 _ _ (c_seq fun K12 hK12 => (c_drawnMG follows (fun _ => False) (.look 0 (.look 1 (.look 2 (.look 3 (.look 5 (.look 6 (.look 7 (.look 8 (.act 4 (.act 9 (.act 10 (.act 11 (.look 12 .done) .stop) .stop) .stop) .stop))))))))) (by kernel_rfl) fun w13 u14 Gu14 => ?_))))
 have zu14 := u14.size
 refine y_field underlying109 rfl sizeOf3 (0) rfl rfl rfl rfl ?_
 have B16 := ((B4.kx u10).kx u14)
 refine y_load isAgg3 rfl rfl rfl (B16.get rfl) (fun h => h) (y_field underlying109 rfl sizeOf3 (0) rfl rfl rfl rfl ?_)
 have B17 := (B9.kx u14)
 refine y_load isAgg3 rfl rfl rfl (B17.get rfl) (fun h => h) (y_field underlying109 rfl sizeOf3 (1) rfl rfl rfl rfl (y_load isAgg3 rfl rfl rfl (B16.get rfl) (fun h => h) (y_field underlying109 rfl sizeOf3 (1) rfl rfl rfl rfl (y_load isAgg3 rfl rfl rfl (B17.get rfl) (fun h => h) (s_do (t_call own106 rfl rfl rfl rfl (cmpI_c x.b y.b _) (fun v18 w19 r21 => ?_)))))))
 obtain ⟨⟨rfl, Gu20⟩, u20⟩ := r21
 have zu20 := u20.size
 refine s_next ((Upd.refl _ _).nx u20) (s_do (t_call own106 rfl rfl rfl rfl (cmpI_c x.e y.e _) (fun v23 w24 r26 => ?_)))
 obtain ⟨⟨rfl, Gu25⟩, u25⟩ := r26
 have zu25 := u25.size
 refine s_next ((Upd.refl _ _).nx u25) (s_do (t_bsliceG (ps := [(0, .int .i64 (cmpI3 x.b y.b)), (1, .int .i64 (cmpI3 x.e y.e))]) (cs := [.int .i64 (cmpI3 x.b y.b), .int .i64 (cmpI3 x.e y.e)]) (e := 3) rfl rfl ⟨rfl, rfl⟩ (fun w => by kernel_rfl) (fun bk28 w29 ebk28 sbk28 B30 u31 Gu31 => ?_)))
 have zu31 := u31.size
 refine s_next ((Upd.refl _ _).nx u31) (s_do (t_call own105 rfl rfl rfl rfl (orI_c (cmpI3 x.b y.b) (cmpI3 x.e y.e) bk28 _ B30) (fun v33 w34 r36 => ?_)))
 obtain ⟨⟨rfl, Gu35⟩, u35⟩ := r36
 have zu35 := u35.size
 refine s_next ((Upd.refl _ _).nx u35) (y_assign rfl rfl rfl (s_nil (hK12 _ _ (c_ret (f_ret1 (v := .int .i64 (orI (cmpI3 x.b y.b) (cmpI3 x.e y.e))) results81 rfl ?_)))))
 exact ⟨⟨congrArg (Value.int .i64) (cmpS_eq x y), ((((((((Gr.refl _).trans Gu5).trans Gu10).trans Gu14).trans Gu20).trans Gu25).trans Gu31).trans Gu35)⟩, ((((((((Upd.refl (fun _ => False) w0).nx u5).nx u10).nx u14).nx u20).nx u25).nx u31).nx u35)⟩

abbrev out1 (lo hi n : Int) : Bool := decide (n < lo ∨ hi < n)

theorem within1_c (lo hi n : Int) (b c : Nat) (t1 t2 : TypeId) (w0 : World) (hb : Blk w0 b t1 [.int .i64 lo]) (hc : Blk w0 c t2 [.int .i64 hi]) :
    CallsV Tryz.prog 75 [.int .i64 n, .pointer (some ⟨b, 0, none⟩), .pointer (some ⟨c, 0, none⟩)] w0 (fun v w' => v = .bool (out1 lo hi n) ∧ Ext w0 w') := by
 have E0 := Upd.refl (fun _ => False) w0
 refine f_enter (N := 13) func75 rfl rfl rfl (c_seq fun K1 hK1 => (c_region (t_assign rfl rfl rfl (t_nil' (hK1 _ _ (c_seq fun K2 hK2 => (c_region (t_move rfl rfl rfl (t_load isAgg3 rfl rfl rfl (hb.get rfl) (t_cmp rfl rfl rfl rfl rfl (t_move rfl rfl rfl (t_splitp 8 rfl (fun g8 => ?_) (fun g8 => ?_)))))))))))))
 ·
  refine t_skip rfl rfl rfl (t_skip rfl rfl rfl (t_skip rfl rfl rfl (t_pick_t rfl rfl rfl rfl (t_assign rfl rfl rfl (t_nil' (hK2 _ _ (c_ret (f_ret1 (v := .bool true) results75 rfl ?_))))))))
  exact ⟨by simp [out1, *], E0⟩
 refine t_move rfl rfl rfl (t_load isAgg3 rfl rfl rfl (hc.get rfl) (t_cmp rfl rfl rfl rfl rfl (t_pick_f rfl rfl rfl rfl (t_assign rfl rfl rfl (t_nil' (hK2 _ _ (c_ret (f_ret1 (v := .bool (decide (hi < n))) results75 rfl ?_))))))))
 exact ⟨by simp [out1, *], E0⟩

theorem indexI_c (p : Int → Bool) (fv : FuncId) (caps : List Value) (xs : List Int) (ao : Option Addr) (b o cap : Nat) (w0 : World) (ho : Own Tryz.prog fv) (hp : ∀ x ∈ xs, ∀ w, Ext w0 w → CallsV Tryz.prog fv ([.int .i64 x] ++ caps) w fun v w' => v = .bool (p x) ∧ Ext w w') (hs : Sl encI 1 w0 ao b o xs) (hl : xs.length ≤ 1000000) :
    CallsV Tryz.prog 100 [.slice ao xs.length cap, .func (.func fv) #[] (caps).toArray] w0 (fun v w' => (∃ n : Int, v = .int .i64 n ∧ decide (0 ≤ n) = xs.any p) ∧ Ext w0 w') := by
 refine f_enter (N := 19) func100 rfl rfl rfl (c_seq fun K1 hK1 => (c_region (t_assign rfl rfl rfl (t_nil' (hK1 _ _ (c_seq fun K2 hK2 => (c_seq fun K3 hK3 => (c_region (t_move rfl rfl rfl (t_len underlying60 rfl rfl rfl rfl (t_move rfl rfl rfl (t_nil' (hK3 _ _ (c_block (c_loop (γ := Nat) (fun k => [(0, .slice ao xs.length cap), (1, .func (.func fv) #[] (caps).toArray), (7, .int .i64 (xs.length : Int)), (8, .int .i64 (k : Int))]) (fun k w => Upd (fun _ => False) w0 w ∧ (k ≤ xs.length) ∧ ((xs.take k).any p = false)) (fun k => xs.length - k) 0 ⟨rfl, rfl, rfl, rfl, trivial⟩ ⟨Upd.refl _ _, Nat.zero_le _, (by simp)⟩ ?_)))))))))))))))
 intro k w5 hW K4 hK4
 obtain ⟨u6, I7, I8⟩ := hW
 have zu6 := u6.size
 have E9 := (Upd.refl (fun _ => False) w0).nx u6
 have hle := I7; clear I7
 have hnot := I8; clear I8
 refine c_seq fun K10 hK10 => (c_region (t_cmp rfl rfl rfl rfl rfl (t_nil' (hK10 _ _ (c_seq fun K11 hK11 => (c_condp rfl (fun g9 => ?_) (fun g9 => ?_)))))))
 ·
  refine c_skip (hK11 _ _ (c_seq fun K12 hK12 => (c_block (c_seq fun K13 hK13 => (c_region (t_move rfl rfl rfl (t_assign rfl rfl rfl (t_nil' (hK13 _ _ (c_seq fun K14 hK14 => (c_region (t_move rfl rfl rfl (t_move rfl rfl rfl (t_move rfl rfl rfl ?_))))))))))))))
  have i15 : k < xs.length := (by omega)
  refine t_index (j := k) underlying60 sizeOf3 rfl rfl rfl rfl ((hs.keep E9 (fun _ h => h)).addr (by omega)) rfl i15 (t_load isAgg3 rfl rfl rfl (((hs.keep E9 (fun _ h => h)).at_ k (by omega)) 0 _ rfl) (t_call (fs := []) (cs := caps) ho rfl rfl rfl rfl (hp (nth xs k) (nth_mem (by omega)) _ E9) (fun v16 w17 r19 => ?_)))
  obtain ⟨rfl, u18⟩ := r19
  have zu18 := u18.size
  refine t_nil' (hK14 _ _ (c_cond rfl (fun g16 => ?_) (fun g16 => ?_)))
  ·
   refine c_seq fun K21 hK21 => (c_region (t_move rfl rfl rfl (t_assign rfl rfl rfl (t_nil' (hK21 _ _ (c_ret (f_ret1 (v := .int .i64 (k : Int)) results100 rfl ?_)))))))
   exact ⟨⟨_, rfl, any_hit (by omega) g16⟩, (E9.nx u18)⟩
  refine c_skip (hK12 _ _ (c_region (t_ari rfl rfl rfl rfl rfl (by omega) (t_move rfl rfl rfl (t_nil' ?_)))))
  exact hK4 (k + 1) _ _ (by omega) ⟨rfl, rfl, rfl, rfl, trivial⟩ ⟨(u6.nx u18), (by omega), (any_snoc (by omega) hnot g16)⟩
 refine c_exit (hK2 _ _ (c_seq fun K22 hK22 => (c_region (t_assign rfl rfl rfl (t_nil' (hK22 _ _ (c_ret (f_ret1 (v := .int .i64 (-1)) results100 rfl ?_))))))))
 exact ⟨⟨_, rfl, any_none (by omega) hnot⟩, E9⟩

theorem containsI_c (p : Int → Bool) (fv : FuncId) (caps : List Value) (xs : List Int) (ao : Option Addr) (b o cap : Nat) (w0 : World) (ho : Own Tryz.prog fv) (hp : ∀ x ∈ xs, ∀ w, Ext w0 w → CallsV Tryz.prog fv ([.int .i64 x] ++ caps) w fun v w' => v = .bool (p x) ∧ Ext w w') (hs : Sl encI 1 w0 ao b o xs) (hl : xs.length ≤ 1000000) :
    CallsV Tryz.prog 74 [.slice ao xs.length cap, .func (.func fv) #[] (caps).toArray] w0 (fun v w' => v = .bool (xs.any p) ∧ Ext w0 w') := by
 refine f_enter (N := 9) func74 rfl rfl rfl (c_seq fun K1 hK1 => (c_region (t_assign rfl rfl rfl (t_nil' (hK1 _ _ (c_seq fun K2 hK2 => (c_region (t_move rfl rfl rfl (t_move rfl rfl rfl (t_call own100 rfl rfl rfl rfl (indexI_c p fv caps xs ao b o cap _ ho hp hs hl) (fun v3 w4 r6 => ?_)))))))))))
 obtain ⟨⟨n, rfl, hn⟩, u5⟩ := r6
 have zu5 := u5.size
 refine t_cmp rfl rfl rfl rfl rfl (t_assign rfl rfl rfl (t_nil' (hK2 _ _ (c_ret (f_ret1 (v := .bool (decide (0 ≤ n))) results74 rfl ?_)))))
 exact ⟨by rw [hn], ((Upd.refl (fun _ => False) w0).nx u5)⟩

theorem indexD_c {α : Type} [Inhabited α] (enc : α → List Value) (hk : ∀ x, (enc x).length = 4) (p : α → Bool) (fv : FuncId) (caps : List Value) (xs : List α) (ao : Option Addr) (b o cap : Nat) (w0 : World) (ho : Own Tryz.prog fv) (hp : ∀ x ∈ xs, ∀ w, Ext w0 w → CallsV Tryz.prog fv ([.agg (enc x).toArray] ++ caps) w fun v w' => v = .bool (p x) ∧ Ext w w') (hs : Sl enc 4 w0 ao b o xs) (hl : xs.length ≤ 1000000) :
    CallsV Tryz.prog 114 [.slice ao xs.length cap, .func (.func fv) #[] (caps).toArray] w0 (fun v w' => (∃ n : Int, v = .int .i64 n ∧ decide (0 ≤ n) = xs.any p) ∧ Ext w0 w') := by
 refine f_enter (N := 19) func114 rfl rfl rfl (c_seq fun K1 hK1 => (c_region (t_assign rfl rfl rfl (t_nil' (hK1 _ _ (c_seq fun K2 hK2 => (c_seq fun K3 hK3 => (c_region (t_move rfl rfl rfl (t_len underlying24 rfl rfl rfl rfl (t_move rfl rfl rfl (t_nil' (hK3 _ _ (c_block (c_loop (γ := Nat) (fun k => [(0, .slice ao xs.length cap), (1, .func (.func fv) #[] (caps).toArray), (7, .int .i64 (xs.length : Int)), (8, .int .i64 (k : Int))]) (fun k w => Upd (fun _ => False) w0 w ∧ (k ≤ xs.length) ∧ ((xs.take k).any p = false)) (fun k => xs.length - k) 0 ⟨rfl, rfl, rfl, rfl, trivial⟩ ⟨Upd.refl _ _, Nat.zero_le _, (by simp)⟩ ?_)))))))))))))))
 intro k w5 hW K4 hK4
 obtain ⟨u6, I7, I8⟩ := hW
 have zu6 := u6.size
 have E9 := (Upd.refl (fun _ => False) w0).nx u6
 have hle := I7; clear I7
 have hnot := I8; clear I8
 refine c_seq fun K10 hK10 => (c_region (t_cmp rfl rfl rfl rfl rfl (t_nil' (hK10 _ _ (c_seq fun K11 hK11 => (c_condp rfl (fun g9 => ?_) (fun g9 => ?_)))))))
 ·
  refine c_skip (hK11 _ _ (c_seq fun K12 hK12 => (c_block (c_seq fun K13 hK13 => (c_region (t_move rfl rfl rfl (t_assign rfl rfl rfl (t_nil' (hK13 _ _ (c_seq fun K14 hK14 => (c_region (t_move rfl rfl rfl (t_move rfl rfl rfl (t_move rfl rfl rfl ?_))))))))))))))
  have i15 : k < xs.length := (by omega)
  refine t_index (j := k) underlying24 sizeOf37 rfl rfl rfl rfl ((hs.keep E9 (fun _ h => h)).addr (by omega)) rfl i15 (t_loadN (vs := enc (nth xs k)) isAgg37 sizeOf37 rfl rfl rfl ((hs.keep E9 (fun _ h => h)).at_ k (by omega)) (hk _) (t_call (fs := []) (cs := caps) ho rfl rfl rfl rfl (hp (nth xs k) (nth_mem (by omega)) _ E9) (fun v16 w17 r19 => ?_)))
  obtain ⟨rfl, u18⟩ := r19
  have zu18 := u18.size
  refine t_nil' (hK14 _ _ (c_cond rfl (fun g16 => ?_) (fun g16 => ?_)))
  ·
   refine c_seq fun K21 hK21 => (c_region (t_move rfl rfl rfl (t_assign rfl rfl rfl (t_nil' (hK21 _ _ (c_ret (f_ret1 (v := .int .i64 (k : Int)) results114 rfl ?_)))))))
   exact ⟨⟨_, rfl, any_hit (by omega) g16⟩, (E9.nx u18)⟩
  refine c_skip (hK12 _ _ (c_region (t_ari rfl rfl rfl rfl rfl (by omega) (t_move rfl rfl rfl (t_nil' ?_)))))
  exact hK4 (k + 1) _ _ (by omega) ⟨rfl, rfl, rfl, rfl, trivial⟩ ⟨(u6.nx u18), (by omega), (any_snoc (by omega) hnot g16)⟩
 refine c_exit (hK2 _ _ (c_seq fun K22 hK22 => (c_region (t_assign rfl rfl rfl (t_nil' (hK22 _ _ (c_ret (f_ret1 (v := .int .i64 (-1)) results114 rfl ?_))))))))
 exact ⟨⟨_, rfl, any_none (by omega) hnot⟩, E9⟩

theorem containsD_c {α : Type} [Inhabited α] (enc : α → List Value) (hk : ∀ x, (enc x).length = 4) (p : α → Bool) (fv : FuncId) (caps : List Value) (xs : List α) (ao : Option Addr) (b o cap : Nat) (w0 : World) (ho : Own Tryz.prog fv) (hp : ∀ x ∈ xs, ∀ w, Ext w0 w → CallsV Tryz.prog fv ([.agg (enc x).toArray] ++ caps) w fun v w' => v = .bool (p x) ∧ Ext w w') (hs : Sl enc 4 w0 ao b o xs) (hl : xs.length ≤ 1000000) :
    CallsV Tryz.prog 101 [.slice ao xs.length cap, .func (.func fv) #[] (caps).toArray] w0 (fun v w' => v = .bool (xs.any p) ∧ Ext w0 w') := by
 refine f_enter (N := 9) func101 rfl rfl rfl (c_seq fun K1 hK1 => (c_region (t_assign rfl rfl rfl (t_nil' (hK1 _ _ (c_seq fun K2 hK2 => (c_region (t_move rfl rfl rfl (t_move rfl rfl rfl (t_call own114 rfl rfl rfl rfl (indexD_c enc hk p fv caps xs ao b o cap _ ho hp hs hl) (fun v3 w4 r6 => ?_)))))))))))
 obtain ⟨⟨n, rfl, hn⟩, u5⟩ := r6
 have zu5 := u5.size
 refine t_cmp rfl rfl rfl rfl rfl (t_assign rfl rfl rfl (t_nil' (hK2 _ _ (c_ret (f_ret1 (v := .bool (decide (0 ≤ n))) results101 rfl ?_)))))
 exact ⟨by rw [hn], ((Upd.refl (fun _ => False) w0).nx u5)⟩

theorem within_c (lo hi : Int) (xs : List Int) (ao : Option Addr) (b o cap : Nat) (w0 : World) (hs : Sl encI 1 w0 ao b o xs) (hl : xs.length ≤ 1000000) :
    CallsV Tryz.prog 43 [.int .i64 lo, .int .i64 hi, .slice ao xs.length cap] w0 (fun v w' => v = .bool (decide (∀ n ∈ xs, lo ≤ n ∧ n ≤ hi)) ∧ Ext w0 w') := by
 refine f_enter (N := 11) func43 rfl rfl rfl (c_seq fun K1 hK1 => (c_region (t_box (cs := [.int .i64 lo]) rfl rfl rfl rfl (fun bk2 w3 ebk2 sbk2 B4 u5 => ?_))))
 have zu5 := u5.size
 refine t_box (cs := [.int .i64 hi]) rfl rfl rfl rfl (fun bk7 w8 ebk7 sbk7 B9 u10 => ?_)
 have zu10 := u10.size
 have E11 := ((Upd.refl (fun _ => False) w0).nx u5).nx u10
 refine t_assign rfl rfl rfl (t_nil' (hK1 _ _ (c_seq fun K12 hK12 => (c_region (t_move rfl rfl rfl (t_mkfunc (vs := []) (us := [.pointer (some ⟨bk2, 0, none⟩), .pointer (some ⟨bk7, 0, none⟩)]) rfl rfl rfl rfl ?_))))))
 have B13 := (B4.kx u10)
 refine t_call own74 rfl rfl rfl rfl (containsI_c (out1 lo hi) 75 [.pointer (some ⟨bk2, 0, none⟩), .pointer (some ⟨bk7, 0, none⟩)] xs ao b o cap _ own75 (fun x _ w u => within1_c lo hi x bk2 bk7 _ _ w (B13.keep u (fun h => h)) (B9.keep u (fun h => h))) (hs.keep E11 (fun _ h => h)) hl) (fun v14 w15 r17 => ?_)
 obtain ⟨rfl, u16⟩ := r17
 have zu16 := u16.size
 refine t_not rfl rfl rfl (t_assign rfl rfl rfl (t_nil' (hK12 _ _ (c_ret (f_ret1 (v := .bool (!(xs.any (out1 lo hi)))) results43 rfl ?_)))))
 exact ⟨by rw [not_any_out], (E11.nx u16)⟩

theorem within1_v (lo hi m : Int) (b : Nat) (t : TypeId) (w : World) (h : Blk w b t [.int .i64 m]) :
    CallsV Tryz.prog 43 [.int .i64 lo, .int .i64 hi, .slice (some ⟨b, 0, none⟩) 1 1] w (fun v w' => v = .bool (decide ((lo ≤ m ∧ m ≤ hi))) ∧ Ext w w') :=
  (within_c lo hi [m] _ b 0 1 w (SlI.own (xs := [m]) h) (by simp)).mono fun v w' ⟨e, u⟩ => ⟨by rw [e]; simp, u⟩

theorem within2_v (lo hi m n : Int) (b : Nat) (t : TypeId) (w : World) (h : Blk w b t [.int .i64 m, .int .i64 n]) :
    CallsV Tryz.prog 43 [.int .i64 lo, .int .i64 hi, .slice (some ⟨b, 0, none⟩) 2 2] w (fun v w' => v = .bool (decide ((lo ≤ m ∧ m ≤ hi) ∧ (lo ≤ n ∧ n ≤ hi))) ∧ Ext w w') :=
  (within_c lo hi [m, n] _ b 0 2 w (SlI.own (xs := [m, n]) h) (by simp)).mono fun v w' ⟨e, u⟩ => ⟨by rw [e]; simp, u⟩

theorem within4_v (lo hi m n q r : Int) (b : Nat) (t : TypeId) (w : World) (h : Blk w b t [.int .i64 m, .int .i64 n, .int .i64 q, .int .i64 r]) :
    CallsV Tryz.prog 43 [.int .i64 lo, .int .i64 hi, .slice (some ⟨b, 0, none⟩) 4 4] w (fun v w' => v = .bool (decide ((lo ≤ m ∧ m ≤ hi) ∧ (lo ≤ n ∧ n ≤ hi) ∧ (lo ≤ q ∧ q ≤ hi) ∧ (lo ≤ r ∧ r ≤ hi))) ∧ Ext w w') :=
  (within_c lo hi [m, n, q, r] _ b 0 4 w (SlI.own (xs := [m, n, q, r]) h) (by simp)).mono fun v w' ⟨e, u⟩ => ⟨by rw [e]; simp, u⟩

theorem within5_v (lo hi m n q r s : Int) (b : Nat) (t : TypeId) (w : World) (h : Blk w b t [.int .i64 m, .int .i64 n, .int .i64 q, .int .i64 r, .int .i64 s]) :
    CallsV Tryz.prog 43 [.int .i64 lo, .int .i64 hi, .slice (some ⟨b, 0, none⟩) 5 5] w (fun v w' => v = .bool (decide ((lo ≤ m ∧ m ≤ hi) ∧ (lo ≤ n ∧ n ≤ hi) ∧ (lo ≤ q ∧ q ≤ hi) ∧ (lo ≤ r ∧ r ≤ hi) ∧ (lo ≤ s ∧ s ≤ hi))) ∧ Ext w w') :=
  (within_c lo hi [m, n, q, r, s] _ b 0 5 w (SlI.own (xs := [m, n, q, r, s]) h) (by simp)).mono fun v w' ⟨e, u⟩ => ⟨by rw [e]; simp, u⟩

theorem Check_c (r : Rul) (w0 : World) :
    CallsV Tryz.prog 10 [.agg #[.int .i64 r.rest, .int .i64 r.span, .int .i64 r.work, .int .i64 r.week, .int .i64 r.ww]] w0 (fun v w' => v = .int .i64 (chkR r) ∧ Ext w0 w') := by
 refine f_enter (N := 16) func10 rfl rfl rfl (c_seq fun K1 hK1 => (c_region (t_box (cs := [.int .i64 r.rest, .int .i64 r.span, .int .i64 r.work, .int .i64 r.week, .int .i64 r.ww]) rfl rfl rfl rfl (fun bk2 w3 ebk2 sbk2 B4 u5 => ?_))))
 have zu5 := u5.size
 refine t_assign rfl rfl rfl (t_nil' (hK1 _ _ (c_seq fun K7 hK7 => (c_seq fun K8 hK8 => (c_region (t_field underlying23 rfl sizeOf3 (0) rfl rfl rfl rfl (t_load isAgg3 rfl rfl rfl (B4.get rfl) (t_field underlying23 rfl sizeOf3 (1) rfl rfl rfl rfl (t_load isAgg3 rfl rfl rfl (B4.get rfl) (t_field underlying23 rfl sizeOf3 (2) rfl rfl rfl rfl (t_load isAgg3 rfl rfl rfl (B4.get rfl) (t_field underlying23 rfl sizeOf3 (3) rfl rfl rfl rfl (t_load isAgg3 rfl rfl rfl (B4.get rfl) (t_field underlying23 rfl sizeOf3 (4) rfl rfl rfl rfl (t_load isAgg3 rfl rfl rfl (B4.get rfl) (t_bslice (ps := [(0, .int .i64 r.rest), (1, .int .i64 r.span), (2, .int .i64 r.work), (3, .int .i64 r.week), (4, .int .i64 r.ww)]) (cs := [.int .i64 r.rest, .int .i64 r.span, .int .i64 r.work, .int .i64 r.week, .int .i64 r.ww]) (e := 3) rfl rfl ⟨rfl, rfl⟩ (fun w => by kernel_rfl) (fun bk9 w10 ebk9 sbk9 B11 u12 => ?_)))))))))))))))))
 have zu12 := u12.size
 refine t_call own43 rfl rfl rfl rfl (within5_v 1 20160 r.rest r.span r.work r.week r.ww _ _ _ B11) (fun v14 w15 r17 => ?_)
 obtain ⟨rfl, u16⟩ := r17
 have zu16 := u16.size
 have E18 := (((Upd.refl (fun _ => False) w0).nx u5).nx u12).nx u16
 refine t_notp rfl rfl rfl (t_nil' (hK8 _ _ (c_condp rfl (fun g15 => ?_) (fun g15 => ?_))))
 ·
  refine c_seq fun K19 hK19 => (c_region (t_assign rfl rfl rfl (t_nil' (hK19 _ _ (c_ret (f_ret1 (v := .int .i64 2) results10 rfl ?_))))))
  exact ⟨congrArg (Value.int .i64) (by unfold chkR okRul; simp only [decide_eq_true_eq]; split <;> first | rfl | omega), E18⟩
 refine c_skip (hK7 _ _ (c_seq fun K20 hK20 => (c_region (t_assign rfl rfl rfl (t_nil' (hK20 _ _ (c_ret (f_ret1 (v := .int .i64 0) results10 rfl ?_))))))))
 exact ⟨congrArg (Value.int .i64) (by unfold chkR okRul; simp only [decide_eq_true_eq]; split <;> first | rfl | omega), E18⟩

theorem isDuty_c (d : Dty) (w0 : World) :
    CallsV Tryz.prog 95 [.agg #[.int .i64 d.bl, .int .i64 d.bh, .int .i64 d.el, .int .i64 d.eh]] w0 (fun v w' => v = .bool (okDty d) ∧ Ext w0 w') := by
 refine f_enter (N := 44) func95 rfl rfl rfl (c_seq fun K1 hK1 => (c_region (t_box (cs := [.int .i64 d.bl, .int .i64 d.bh, .int .i64 d.el, .int .i64 d.eh]) rfl rfl rfl rfl (fun bk2 w3 ebk2 sbk2 B4 u5 => ?_))))
 have zu5 := u5.size
 refine t_assign rfl rfl rfl (t_nil' (hK1 _ _ (c_seq fun K7 hK7 => (c_region (t_field underlying37 rfl sizeOf35 (0) rfl rfl rfl rfl (t_field underlying35 rfl sizeOf3 (0) rfl rfl rfl rfl (t_load isAgg3 rfl rfl rfl (B4.get rfl) (t_field underlying37 rfl sizeOf35 (0) rfl rfl rfl rfl (t_field underlying35 rfl sizeOf3 (1) rfl rfl rfl rfl (t_load isAgg3 rfl rfl rfl (B4.get rfl) (t_field underlying37 rfl sizeOf35 (2) rfl rfl rfl rfl (t_field underlying35 rfl sizeOf3 (2) rfl rfl rfl rfl (t_load isAgg3 rfl rfl rfl (B4.get rfl) (t_field underlying37 rfl sizeOf35 (2) rfl rfl rfl rfl (t_field underlying35 rfl sizeOf3 (3) rfl rfl rfl rfl (t_load isAgg3 rfl rfl rfl (B4.get rfl) (t_bslice (ps := [(0, .int .i64 d.bl), (1, .int .i64 d.bh), (2, .int .i64 d.el), (3, .int .i64 d.eh)]) (cs := [.int .i64 d.bl, .int .i64 d.bh, .int .i64 d.el, .int .i64 d.eh]) (e := 3) rfl rfl ⟨rfl, rfl⟩ (fun w => by kernel_rfl) (fun bk8 w9 ebk8 sbk8 B10 u11 => ?_))))))))))))))))))
 have zu11 := u11.size
 refine t_call own43 rfl rfl rfl rfl (within4_v 0 20160 d.bl d.bh d.el d.eh _ _ _ B10) (fun v13 w14 r16 => ?_)
 obtain ⟨rfl, u15⟩ := r16
 have zu15 := u15.size
 have E17 := (((Upd.refl (fun _ => False) w0).nx u5).nx u11).nx u15
 refine t_move rfl rfl rfl (t_splitp 17 rfl (fun g17 => ?_) (fun g17 => ?_))
 ·
  refine t_field underlying37 rfl sizeOf35 (0) rfl rfl rfl rfl (t_field underlying35 rfl sizeOf3 (0) rfl rfl rfl rfl ?_)
  have B18 := ((B4.kx u11).kx u15)
  refine t_load isAgg3 rfl rfl rfl (B18.get rfl) (t_field underlying37 rfl sizeOf35 (0) rfl rfl rfl rfl (t_field underlying35 rfl sizeOf3 (1) rfl rfl rfl rfl (t_load isAgg3 rfl rfl rfl (B18.get rfl) (t_cmp rfl rfl rfl rfl rfl (t_pick_t rfl rfl rfl rfl (t_move rfl rfl rfl (t_splitp 26 rfl (fun g26 => ?_) (fun g26 => ?_))))))))
  ·
   refine t_field underlying37 rfl sizeOf35 (0) rfl rfl rfl rfl (t_field underlying35 rfl sizeOf3 (1) rfl rfl rfl rfl (t_load isAgg3 rfl rfl rfl (B18.get rfl) (t_field underlying37 rfl sizeOf35 (2) rfl rfl rfl rfl (t_field underlying35 rfl sizeOf3 (2) rfl rfl rfl rfl (t_load isAgg3 rfl rfl rfl (B18.get rfl) (t_cmp rfl rfl rfl rfl rfl (t_pick_t rfl rfl rfl rfl (t_move rfl rfl rfl (t_splitp 35 rfl (fun g35 => ?_) (fun g35 => ?_))))))))))
   ·
    refine t_field underlying37 rfl sizeOf35 (2) rfl rfl rfl rfl (t_field underlying35 rfl sizeOf3 (2) rfl rfl rfl rfl (t_load isAgg3 rfl rfl rfl (B18.get rfl) (t_field underlying37 rfl sizeOf35 (2) rfl rfl rfl rfl (t_field underlying35 rfl sizeOf3 (3) rfl rfl rfl rfl (t_load isAgg3 rfl rfl rfl (B18.get rfl) (t_cmp rfl rfl rfl rfl rfl (t_pick_t rfl rfl rfl rfl (t_assign rfl rfl rfl (t_nil' (hK7 _ _ (c_ret (f_ret1 (v := .bool (decide (d.el ≤ d.eh))) results95 rfl ?_))))))))))))
    exact ⟨congrArg Value.bool (by rw [Bool.eq_iff_iff]; simp [okDty] <;> omega), E17⟩
   refine t_skip rfl rfl rfl (t_skip rfl rfl rfl (t_skip rfl rfl rfl (t_skip rfl rfl rfl (t_skip rfl rfl rfl (t_skip rfl rfl rfl (t_skip rfl rfl rfl (t_pick_f rfl rfl rfl rfl (t_assign rfl rfl rfl (t_nil' (hK7 _ _ (c_ret (f_ret1 (v := .bool false) results95 rfl ?_))))))))))))
   exact ⟨congrArg Value.bool (by rw [Bool.eq_iff_iff]; simp [okDty] <;> omega), E17⟩
  refine t_skip rfl rfl rfl (t_skip rfl rfl rfl (t_skip rfl rfl rfl (t_skip rfl rfl rfl (t_skip rfl rfl rfl (t_skip rfl rfl rfl (t_skip rfl rfl rfl (t_pick_f rfl rfl rfl rfl (t_move rfl rfl rfl (t_skip rfl rfl rfl (t_skip rfl rfl rfl (t_skip rfl rfl rfl (t_skip rfl rfl rfl (t_skip rfl rfl rfl (t_skip rfl rfl rfl (t_skip rfl rfl rfl (t_pick_f rfl rfl rfl rfl (t_assign rfl rfl rfl (t_nil' (hK7 _ _ (c_ret (f_ret1 (v := .bool false) results95 rfl ?_)))))))))))))))))))))
  exact ⟨congrArg Value.bool (by rw [Bool.eq_iff_iff]; simp [okDty] <;> omega), E17⟩
 refine t_skip rfl rfl rfl (t_skip rfl rfl rfl (t_skip rfl rfl rfl (t_skip rfl rfl rfl (t_skip rfl rfl rfl (t_skip rfl rfl rfl (t_skip rfl rfl rfl (t_pick_f rfl rfl rfl rfl (t_move rfl rfl rfl (t_skip rfl rfl rfl (t_skip rfl rfl rfl (t_skip rfl rfl rfl (t_skip rfl rfl rfl (t_skip rfl rfl rfl (t_skip rfl rfl rfl (t_skip rfl rfl rfl (t_pick_f rfl rfl rfl rfl (t_move rfl rfl rfl (t_skip rfl rfl rfl (t_skip rfl rfl rfl (t_skip rfl rfl rfl (t_skip rfl rfl rfl (t_skip rfl rfl rfl (t_skip rfl rfl rfl ?_)))))))))))))))))))))))
 refine t_skip rfl rfl rfl (t_pick_f rfl rfl rfl rfl (t_assign rfl rfl rfl (t_nil' (hK7 _ _ (c_ret (f_ret1 (v := .bool false) results95 rfl ?_))))))
 exact ⟨congrArg Value.bool (by rw [Bool.eq_iff_iff]; simp [okDty] <;> omega), E17⟩

theorem badDty_c (d : Dty) (w0 : World) :
    CallsV Tryz.prog 102 [.agg #[.int .i64 d.bl, .int .i64 d.bh, .int .i64 d.el, .int .i64 d.eh]] w0 (fun v w' => v = .bool (!okDty d) ∧ Ext w0 w') := by
 refine f_enter (N := 6) func102 rfl rfl rfl (c_seq fun K1 hK1 => (c_region (t_box (cs := [.int .i64 d.bl, .int .i64 d.bh, .int .i64 d.el, .int .i64 d.eh]) rfl rfl rfl rfl (fun bk2 w3 ebk2 sbk2 B4 u5 => ?_))))
 have zu5 := u5.size
 refine t_assign rfl rfl rfl (t_nil' (hK1 _ _ (c_seq fun K7 hK7 => (c_region (t_loadN (vs := [.int .i64 d.bl, .int .i64 d.bh, .int .i64 d.el, .int .i64 d.eh]) isAgg37 sizeOf37 rfl rfl rfl (B4.at.sub 0 4) rfl (t_call own95 rfl rfl rfl rfl (isDuty_c d _) (fun v8 w9 r11 => ?_)))))))
 obtain ⟨rfl, u10⟩ := r11
 have zu10 := u10.size
 refine t_not rfl rfl rfl (t_assign rfl rfl rfl (t_nil' (hK7 _ _ (c_ret (f_ret1 (v := .bool (!(okDty d))) results102 rfl ?_)))))
 exact ⟨rfl, (((Upd.refl (fun _ => False) w0).nx u5).nx u10)⟩

theorem checkDuties_c (l : List Dty) (al : Option Addr) (bl ol cl : Nat) (w0 : World) (hl : Sl encDty 4 w0 al bl ol l) (hll : l.length ≤ 1000000) :
    CallsV Tryz.prog 76 [.slice al l.length cl] w0 (fun v w' => v = .int .i64 (chkD l) ∧ Ext w0 w') := by
 have E0 := Upd.refl (fun _ => False) w0
 refine f_enter (N := 10) func76 rfl rfl rfl (c_seq fun K1 hK1 => (c_region (t_assign rfl rfl rfl (t_nil' (hK1 _ _ (c_seq fun K2 hK2 => (c_block (c_seq fun K3 hK3 => (c_region (t_move rfl rfl rfl (t_len underlying24 rfl rfl rfl rfl (t_cmp rfl rfl rfl rfl rfl (t_assign rfl rfl rfl (t_nil' (hK3 _ _ (c_condp rfl (fun g3 => ?_) (fun g3 => ?_)))))))))))))))))
 ·
  refine c_seq fun K4 hK4 => (c_region (t_assign rfl rfl rfl (t_nil' (hK4 _ _ (c_ret (f_ret1 (v := .int .i64 5) results76 rfl ?_))))))
  exact ⟨congrArg (Value.int .i64) (by unfold chkD; rw [if_pos (by omega)]), E0⟩
 refine c_seq fun K5 hK5 => (c_region (t_move rfl rfl rfl (t_call own101 rfl rfl rfl rfl (containsD_c encDty (fun _ => rfl) (fun x => !okDty x) 102 [] l al bl ol cl _ own102 (fun x _ w _ => badDty_c x w) hl hll) (fun v6 w7 r9 => ?_))))
 obtain ⟨rfl, u8⟩ := r9
 have zu8 := u8.size
 have E10 := E0.nx u8
 refine t_assign rfl rfl rfl (t_nil' (hK5 _ _ (c_cond rfl (fun g7 => ?_) (fun g7 => ?_))))
 ·
  refine c_seq fun K11 hK11 => (c_region (t_assign rfl rfl rfl (t_nil' (hK11 _ _ (c_ret (f_ret1 (v := .int .i64 2) results76 rfl ?_))))))
  exact ⟨congrArg (Value.int .i64) (by unfold chkD; rw [if_neg (by omega), if_pos g7]), E10⟩
 refine c_skip (hK2 _ _ (c_seq fun K12 hK12 => (c_region (t_assign rfl rfl rfl (t_nil' (hK12 _ _ (c_ret (f_ret1 (v := .int .i64 0) results76 rfl ?_))))))))
 exact ⟨congrArg (Value.int .i64) (by unfold chkD; rw [if_neg (by omega), if_neg (by simp [g7])]), E10⟩

theorem check_c (r : Rul) (l : List Dty) (al : Option Addr) (bl ol cl : Nat) (w0 : World) (hl : Sl encDty 4 w0 al bl ol l) (hll : l.length ≤ 1000000) :
    CallsV Tryz.prog 44 [.agg #[.int .i64 r.rest, .int .i64 r.span, .int .i64 r.work, .int .i64 r.week, .int .i64 r.ww], .slice al l.length cl] w0 (fun v w' => v = .int .i64 (chkRD r l) ∧ Ext w0 w') := by
 refine f_enter (N := 13) func44 rfl rfl rfl (c_seq fun K1 hK1 => (c_region (t_box (cs := [.int .i64 r.rest, .int .i64 r.span, .int .i64 r.work, .int .i64 r.week, .int .i64 r.ww]) rfl rfl rfl rfl (fun bk2 w3 ebk2 sbk2 B4 u5 => ?_))))
 have zu5 := u5.size
 refine t_assign rfl rfl rfl (t_nil' (hK1 _ _ (c_seq fun K7 hK7 => (c_seq fun K8 hK8 => (c_region (t_loadN (vs := [.int .i64 r.rest, .int .i64 r.span, .int .i64 r.work, .int .i64 r.week, .int .i64 r.ww]) isAgg23 sizeOf23 rfl rfl rfl (B4.at.sub 0 5) rfl (t_call own10 rfl rfl rfl rfl (Check_c r _) (fun v9 w10 r12 => ?_))))))))
 obtain ⟨rfl, u11⟩ := r12
 have zu11 := u11.size
 have E13 := ((Upd.refl (fun _ => False) w0).nx u5).nx u11
 refine t_assign rfl rfl rfl (t_nil' (hK8 _ _ (c_seq fun K14 hK14 => (c_region (t_move rfl rfl rfl (t_cmp rfl rfl rfl rfl rfl (t_nil' (hK14 _ _ (c_condp rfl (fun g9 => ?_) (fun g9 => ?_))))))))))
 ·
  refine c_seq fun K15 hK15 => (c_region (t_move rfl rfl rfl (t_assign rfl rfl rfl (t_nil' (hK15 _ _ (c_ret (f_ret1 (v := .int .i64 (chkR r)) results44 rfl ?_)))))))
  exact ⟨congrArg (Value.int .i64) (by unfold chkRD; rw [if_pos g9]), E13⟩
 refine c_skip (hK7 _ _ (c_seq fun K16 hK16 => (c_region (t_move rfl rfl rfl (t_call own76 rfl rfl rfl rfl (checkDuties_c l al bl ol cl _ (hl.keep E13 (fun _ h => h)) hll) (fun v17 w18 r20 => ?_))))))
 obtain ⟨rfl, u19⟩ := r20
 have zu19 := u19.size
 refine t_assign rfl rfl rfl (t_nil' (hK16 _ _ (c_ret (f_ret1 (v := .int .i64 (chkD l)) results44 rfl ?_))))
 exact ⟨congrArg (Value.int .i64) (by unfold chkRD; rw [if_neg g9]), (E13.nx u19)⟩

theorem longest_c (d : Dty) (w0 : World) :
    CallsV Tryz.prog 48 [.agg #[.int .i64 d.bl, .int .i64 d.bh, .int .i64 d.el, .int .i64 d.eh]] w0 (fun v w' => v = .agg (encSp (lngS d)).toArray ∧ Ext w0 w') := by
 refine f_enter (N := 10) func48 rfl rfl rfl (c_seq fun K1 hK1 => (c_region (t_box (cs := [.int .i64 d.bl, .int .i64 d.bh, .int .i64 d.el, .int .i64 d.eh]) rfl rfl rfl rfl (fun bk2 w3 ebk2 sbk2 B4 u5 => ?_))))
 have zu5 := u5.size
 refine t_alloc (cs := [.int .i64 0, .int .i64 0]) zeroValue109 rfl rfl rfl (fun bk7 w8 ebk7 sbk7 B9 u10 => ?_)
 have zu10 := u10.size
 refine t_nil' (hK1 _ _ (c_seq fun K12 hK12 => (c_region (t_field underlying37 rfl sizeOf35 (0) rfl rfl rfl rfl (t_field underlying35 rfl sizeOf3 (0) rfl rfl rfl rfl ?_)))))
 have B13 := (B4.kx u10)
 refine t_load isAgg3 rfl rfl rfl (B13.get rfl) (t_field underlying37 rfl sizeOf35 (2) rfl rfl rfl rfl (t_field underlying35 rfl sizeOf3 (3) rfl rfl rfl rfl (t_load isAgg3 rfl rfl rfl (B13.get rfl) (t_build (ps := [(0, .int .i64 d.bl), (1, .int .i64 d.eh)]) (v := .agg #[.int .i64 d.bl, .int .i64 d.eh]) rfl rfl ⟨rfl, rfl⟩ (fun w => by kernel_rfl) (t_st (vs := [.int .i64 d.bl, .int .i64 d.eh]) sizeOf109 rfl rfl rfl B9 rfl rfl rfl rfl (fun w14 sw14 B16 u15 => ?_))))))
 have zu15 := u15.size
 have B16 : Blk w14 bk7 109 [.int .i64 d.bl, .int .i64 d.eh] := B16
 refine t_nil' (hK12 _ _ (c_ret (f_ret1 (v := .agg #[.int .i64 d.bl, .int .i64 d.eh]) results48 ⟨_, _, rfl, run_loadVarN (vs := [.int .i64 d.bl, .int .i64 d.eh]) isAgg109 sizeOf109 rfl (B16.at.sub 0 2)⟩ ?_)))
 exact ⟨rfl, ((((Upd.refl (fun _ => False) w0).nx u5).nx u10).next u15 (fun i hi h => by omega))⟩

theorem shortest_c (d : Dty) (w0 : World) :
    CallsV Tryz.prog 50 [.agg #[.int .i64 d.bl, .int .i64 d.bh, .int .i64 d.el, .int .i64 d.eh]] w0 (fun v w' => v = .agg (encSp (shtS d)).toArray ∧ Ext w0 w') := by
 refine f_enter (N := 10) func50 rfl rfl rfl (c_seq fun K1 hK1 => (c_region (t_box (cs := [.int .i64 d.bl, .int .i64 d.bh, .int .i64 d.el, .int .i64 d.eh]) rfl rfl rfl rfl (fun bk2 w3 ebk2 sbk2 B4 u5 => ?_))))
 have zu5 := u5.size
 refine t_alloc (cs := [.int .i64 0, .int .i64 0]) zeroValue109 rfl rfl rfl (fun bk7 w8 ebk7 sbk7 B9 u10 => ?_)
 have zu10 := u10.size
 refine t_nil' (hK1 _ _ (c_seq fun K12 hK12 => (c_region (t_field underlying37 rfl sizeOf35 (0) rfl rfl rfl rfl (t_field underlying35 rfl sizeOf3 (1) rfl rfl rfl rfl ?_)))))
 have B13 := (B4.kx u10)
 refine t_load isAgg3 rfl rfl rfl (B13.get rfl) (t_field underlying37 rfl sizeOf35 (2) rfl rfl rfl rfl (t_field underlying35 rfl sizeOf3 (2) rfl rfl rfl rfl (t_load isAgg3 rfl rfl rfl (B13.get rfl) (t_build (ps := [(0, .int .i64 d.bh), (1, .int .i64 d.el)]) (v := .agg #[.int .i64 d.bh, .int .i64 d.el]) rfl rfl ⟨rfl, rfl⟩ (fun w => by kernel_rfl) (t_st (vs := [.int .i64 d.bh, .int .i64 d.el]) sizeOf109 rfl rfl rfl B9 rfl rfl rfl rfl (fun w14 sw14 B16 u15 => ?_))))))
 have zu15 := u15.size
 have B16 : Blk w14 bk7 109 [.int .i64 d.bh, .int .i64 d.el] := B16
 refine t_nil' (hK12 _ _ (c_ret (f_ret1 (v := .agg #[.int .i64 d.bh, .int .i64 d.el]) results50 ⟨_, _, rfl, run_loadVarN (vs := [.int .i64 d.bh, .int .i64 d.el]) isAgg109 sizeOf109 rfl (B16.at.sub 0 2)⟩ ?_)))
 exact ⟨rfl, ((((Upd.refl (fun _ => False) w0).nx u5).nx u10).next u15 (fun i hi h => by omega))⟩

theorem work_c (s : Sp) (w0 : World) (hs : OkSp s) :
    CallsV Tryz.prog 79 [.agg #[.int .i64 s.b, .int .i64 s.e]] w0 (fun v w' => v = .int .i64 (s.e - s.b) ∧ Ext w0 w') := by
 unfold OkSp at hs
 refine f_enter (N := 8) func79 rfl rfl rfl (c_seq fun K1 hK1 => (c_region (t_box (cs := [.int .i64 s.b, .int .i64 s.e]) rfl rfl rfl rfl (fun bk2 w3 ebk2 sbk2 B4 u5 => ?_))))
 have zu5 := u5.size
 refine t_assign rfl rfl rfl (t_nil' (hK1 _ _ (c_seq fun K7 hK7 => (c_region (t_field underlying109 rfl sizeOf3 (1) rfl rfl rfl rfl (t_load isAgg3 rfl rfl rfl (B4.get rfl) (t_field underlying109 rfl sizeOf3 (0) rfl rfl rfl rfl (t_load isAgg3 rfl rfl rfl (B4.get rfl) (t_ari rfl rfl rfl rfl rfl (by omega) (t_assign rfl rfl rfl (t_nil' (hK7 _ _ (c_ret (f_ret1 (v := .int .i64 (s.e - s.b)) results79 rfl ?_))))))))))))))
 exact ⟨rfl, ((Upd.refl (fun _ => False) w0).nx u5)⟩

theorem in_c (s : Sp) (a b : Int) (w0 : World) (hs : OkSp s) (ha : -100000 ≤ a ∧ a ≤ 100000) (hb : -100000 ≤ b ∧ b ≤ 100000) :
    CallsV Tryz.prog 85 [.agg #[.int .i64 s.b, .int .i64 s.e], .int .i64 a, .int .i64 b] w0 (fun v w' => v = .int .i64 (inW s a b) ∧ Ext w0 w') := by
 unfold OkSp at hs
 refine f_enter (N := 17) func85 rfl rfl rfl (c_seq fun K1 hK1 => (c_region (t_box (cs := [.int .i64 s.b, .int .i64 s.e]) rfl rfl rfl rfl (fun bk2 w3 ebk2 sbk2 B4 u5 => ?_))))
 have zu5 := u5.size
 refine t_assign rfl rfl rfl (t_nil' (hK1 _ _ (c_seq fun K7 hK7 => (c_region (t_field underlying109 rfl sizeOf3 (1) rfl rfl rfl rfl (t_load isAgg3 rfl rfl rfl (B4.get rfl) (t_move rfl rfl rfl (t_min rfl rfl rfl rfl (t_field underlying109 rfl sizeOf3 (0) rfl rfl rfl rfl (t_load isAgg3 rfl rfl rfl (B4.get rfl) (t_move rfl rfl rfl (t_max rfl rfl rfl rfl (t_ari rfl rfl rfl rfl rfl (by omega) (t_max rfl rfl rfl rfl (t_assign rfl rfl rfl (t_nil' (hK7 _ _ (c_ret (f_ret1 (v := .int .i64 (max 0 ((min s.e b) - (max s.b a)))) results85 rfl ?_)))))))))))))))))))
 exact ⟨rfl, ((Upd.refl (fun _ => False) w0).nx u5)⟩

end Go.Proofs.YtagmodjadmecdaaGreat
