/-
  Part 2 of the proof: contracts and plain laws. Conditions: none.
-/
import Derived.Test.YtagmodjadmecdaaGreatProg
import Derived.Shelf.SlSortCmp.WholeK
import Derived.Shelf.SlSortCmp.NoneTotal
import Derived.Ground.SlsfProg
import Derived.Test.YtagmodjadmecdaaGreatJK1
namespace Go.Proofs.YtagmodjadmecdaaGreat
open Go Go.RowKit Tryz

structure Sp where
  b : Int
  e : Int
instance : Inhabited Sp := ⟨⟨default, default⟩⟩
structure Dty where
  bl : Int
  bh : Int
  el : Int
  eh : Int
instance : Inhabited Dty := ⟨⟨default, default, default, default⟩⟩
structure Rul where
  rest : Int
  span : Int
  work : Int
  week : Int
  ww : Int
instance : Inhabited Rul := ⟨⟨default, default, default, default, default⟩⟩
structure Shf where
  b : Int
  e : Int
  w : Int
instance : Inhabited Shf := ⟨⟨default, default, default⟩⟩
def encSp (x : Sp) : List Value := [.int .i64 x.b, .int .i64 x.e]
def encDty (x : Dty) : List Value := [.int .i64 x.bl, .int .i64 x.bh, .int .i64 x.el, .int .i64 x.eh]
def encShf (x : Shf) : List Value := [.int .i64 x.b, .int .i64 x.e, .int .i64 x.w]
def okRul (r : Rul) : Bool := decide ((1 ≤ r.rest ∧ r.rest ≤ 20160) ∧ (1 ≤ r.span ∧ r.span ≤ 20160) ∧ (1 ≤ r.work ∧ r.work ≤ 20160) ∧ (1 ≤ r.week ∧ r.week ≤ 20160) ∧ (1 ≤ r.ww ∧ r.ww ≤ 20160))
def okDty (d : Dty) : Bool := decide (((0 ≤ d.bl ∧ d.bl ≤ 20160) ∧ (0 ≤ d.bh ∧ d.bh ≤ 20160) ∧ (0 ≤ d.el ∧ d.el ≤ 20160) ∧ (0 ≤ d.eh ∧ d.eh ≤ 20160)) ∧ d.bl ≤ d.bh ∧ d.bh ≤ d.el ∧ d.el ≤ d.eh)
def chkR (r : Rul) : Int := if okRul r = true then 0 else 2
def chkD (l : List Dty) : Int := if 20 < l.length then 5 else if (l.any fun d => !okDty d) = true then 2 else 0
def chkRD (r : Rul) (l : List Dty) : Int := if chkR r ≠ 0 then chkR r else chkD l
def lngS (d : Dty) : Sp := ⟨d.bl, d.eh⟩
def shtS (d : Dty) : Sp := ⟨d.bh, d.el⟩
def OkSp (s : Sp) : Prop := 0 ≤ s.b ∧ s.b ≤ s.e ∧ s.e ≤ 20160
theorem lng_ok {d : Dty} (h : okDty d = true) : OkSp (lngS d) := by simp only [okDty, decide_eq_true_eq] at h; unfold OkSp lngS; simp only []; omega
theorem sht_ok {d : Dty} (h : okDty d = true) : OkSp (shtS d) := by simp only [okDty, decide_eq_true_eq] at h; unfold OkSp shtS; simp only []; omega
def LtS (x y : Sp) : Prop := x.b < y.b ∨ (x.b = y.b ∧ x.e < y.e)
instance (x y : Sp) : Decidable (LtS x y) := inferInstanceAs (Decidable (_ ∨ _))
def cmpS (x y : Sp) : Int := if x.b < y.b then -1 else if y.b < x.b then 1 else if x.e < y.e then -1 else if y.e < x.e then 1 else 0
theorem cmp_neg {x y : Sp} : cmpS x y < 0 ↔ LtS x y := by unfold cmpS LtS; split <;> (try split) <;> (try split) <;> (try split) <;> omega
def insS (s : Sp) : List Sp → List Sp
  | [] => [s]
  | x :: l => if LtS x s then x :: insS s l else s :: x :: l
def srtS (l : List Sp) : List Sp := l.foldr insS []
def Srt (l : List Sp) : Prop := l.Pairwise (fun x y => ¬ LtS y x)
theorem ins_perm (s : Sp) : ∀ l, (insS s l).Perm (s :: l)
  | [] => List.Perm.refl _
  | x :: l => by
    unfold insS
    split
    · exact ((ins_perm s l).cons x).trans (List.Perm.swap s x l)
    · exact List.Perm.refl _
theorem srt_perm : ∀ l, (srtS l).Perm l
  | [] => List.Perm.refl _
  | x :: l => (ins_perm x (srtS l)).trans ((srt_perm l).cons x)
theorem ins_srt {s : Sp} : ∀ {l}, Srt l → Srt (insS s l)
  | [], _ => List.pairwise_singleton _ _
  | x :: l, h => by
    have hx : ∀ {y}, y ∈ l → ¬ LtS y x := fun hy => List.rel_of_pairwise_cons h hy
    have ih := ins_srt (s := s) (List.Pairwise.of_cons h)
    unfold insS
    split
    · rename_i q
      refine List.Pairwise.cons (fun y hy => ?_) ih
      rcases List.mem_cons.1 ((ins_perm s l).mem_iff.1 hy) with e | hy
      · subst e; unfold LtS at q ⊢; omega
      · exact hx hy
    · rename_i q
      refine List.Pairwise.cons (fun y hy => ?_) h
      rcases List.mem_cons.1 hy with e | hy
      · subst e; exact q
      · have := hx hy; unfold LtS at q this ⊢; omega
theorem srt_srt : ∀ l, Srt (srtS l)
  | [] => List.Pairwise.nil
  | _x :: l => ins_srt (srt_srt l)
theorem srt_unique : ∀ {a b : List Sp}, Srt a → Srt b → a.Perm b → a = b
  | [], b, _, _, h => (List.nil_perm.1 h).symm
  | x :: a, [], _, _, h => absurd (List.perm_nil.1 h) (by simp)
  | x :: a, y :: b, ha, hb, h => by
    have e : x = y := by
      have h1 : x ∈ y :: b := h.mem_iff.1 (by simp)
      have h2 : y ∈ x :: a := h.mem_iff.2 (by simp)
      have q1 : ¬ LtS x y := by
        rcases List.mem_cons.1 h1 with e | h1
        · subst e; unfold LtS; omega
        · exact List.rel_of_pairwise_cons hb h1
      have q2 : ¬ LtS y x := by
        rcases List.mem_cons.1 h2 with e | h2
        · subst e; unfold LtS; omega
        · exact List.rel_of_pairwise_cons ha h2
      unfold LtS at q1 q2
      cases x; cases y
      simp only [Sp.mk.injEq]
      simp only [] at q1 q2
      omega
    subst e
    rw [srt_unique (List.Pairwise.of_cons ha) (List.Pairwise.of_cons hb) (List.Perm.cons_inv h)]
theorem srt_eq {a l : List Sp} (h : Srt a) (hp : a.Perm l) : a = srtS l := srt_unique h (srt_srt l) (hp.trans (srt_perm l).symm)
theorem ins_srtS (s : Sp) (l : List Sp) : insS s (srtS l) = srtS (l ++ [s]) := srt_eq (ins_srt (srt_srt l)) ((ins_perm s _).trans (((srt_perm l).cons s).trans (List.perm_append_comm (l₁ := [s]))))
theorem ins_len (s : Sp) (l : List Sp) : (insS s l).length = l.length + 1 := (ins_perm s l).length_eq
theorem srt_len (l : List Sp) : (srtS l).length = l.length := (srt_perm l).length_eq
theorem ins_ok {s : Sp} {l : List Sp} (hs : OkSp s) (h : ∀ x ∈ l, OkSp x) : ∀ x ∈ insS s l, OkSp x := fun x hx => by
  rcases List.mem_cons.1 ((ins_perm s l).mem_iff.1 hx) with e | hx
  · rw [e]; exact hs
  · exact h x hx
theorem srt_ok {l : List Sp} (h : ∀ x ∈ l, OkSp x) : ∀ x ∈ srtS l, OkSp x := fun x hx => h x ((srt_perm l).mem_iff.1 hx)
theorem ins_at {s : Sp} : ∀ {l : List Sp} {k : Nat}, k ≤ l.length → (∀ j, j < k → LtS (nth l j) s) → (k < l.length → ¬ LtS (nth l k) s) → insS s l = l.take k ++ s :: l.drop k
  | [], k, hk, _, _ => by
    have : k = 0 := by simpa using hk
    subst this; rfl
  | x :: l, 0, _, _, h => by
    have : ¬ LtS x s := h (by simp)
    unfold insS
    rw [if_neg this]; rfl
  | x :: l, k + 1, hk, h1, h2 => by
    have hx : LtS x s := h1 0 (by omega)
    unfold insS
    rw [if_pos hx, ins_at (k := k) (by simpa using hk) (fun j hj => h1 (j + 1) (by omega)) (fun h => h2 (by simpa using h))]
    rfl
theorem srt_below {s : Sp} {l : List Sp} (h : Srt l) {k : Nat} (hk : k ≤ l.length) (hl : 0 < k → LtS (nth l (k - 1)) s) : ∀ j, j < k → LtS (nth l j) s := fun j hj => by
  have h1 := hl (by omega)
  rcases Nat.lt_or_ge j (k - 1) with q | q
  · have := List.pairwise_iff_getElem.1 h j (k - 1) (by omega) (by omega) q
    rw [← nth_eq, ← nth_eq] at this
    unfold LtS at this h1 ⊢; omega
  · rwa [show j = k - 1 by omega]
def shGo (r : Rul) (x : Shf) : List Sp → List Shf
  | [] => [x]
  | s :: l => if s.b < x.e + r.rest then shGo r ⟨x.b, max x.e s.e, x.w + (s.e - s.b)⟩ l else x :: shGo r ⟨s.b, s.e, s.e - s.b⟩ l
def shiftsP (r : Rul) : List Sp → List Shf
  | [] => []
  | s :: l => shGo r ⟨s.b, s.e, s.e - s.b⟩ l
theorem sh_first {r : Rul} {s : Sp} {l : List Sp} (hr : 1 ≤ r.rest) : shGo r ⟨s.b, s.e, 0⟩ (s :: l) = shiftsP r (s :: l) ∨ ¬ s.b ≤ s.e := by
  by_cases h : s.b ≤ s.e
  · left
    unfold shiftsP
    rw [shGo, if_pos (by show s.b < s.e + r.rest; omega)]
    show shGo r ⟨s.b, max s.e s.e, 0 + (s.e - s.b)⟩ l = _
    rw [Int.max_self, Int.zero_add]
  · exact .inr h
def sumI2 : List Int → Int
  | [] => 0
  | x :: l => x + sumI2 l
theorem sumI2_app (a b : List Int) : sumI2 (a ++ b) = sumI2 a + sumI2 b := by
  induction a with
  | nil => simp [sumI2]
  | cons x a ih => simp only [List.cons_append, sumI2, ih]; omega
theorem sumI2_snoc (a : List Int) (x : Int) : sumI2 (a ++ [x]) = sumI2 a + x := by rw [sumI2_app]; simp [sumI2]
def inW (s : Sp) (a b : Int) : Int := max 0 (min s.e b - max s.b a)
def winP (r : Rul) (l : List Sp) (t : Int) : Int := sumI2 (l.map fun s => inW s (t - r.week) t)
def ovlP (e : Int) : List Sp → Bool
  | [] => false
  | s :: l => decide (s.b < e) || ovlP (max e s.e) l
def brokP (r : Rul) (l : List Sp) : Int :=
  if ovlP 0 l = true then 1 else if ((shiftsP r l).any fun x => decide (r.span < x.e - x.b)) = true then 2 else if ((shiftsP r l).any fun x => decide (r.work < x.w)) = true then 3 else if (l.any fun s => decide (r.ww < winP r l s.e)) = true then 4 else 0

theorem any_snoc {α : Type} [Inhabited α] {p : α → Bool} {xs : List α} {k : Nat} (hk : k < xs.length) (h : (xs.take k).any p = false) (hx : p (nth xs k) = false) : (xs.take (k + 1)).any p = false := by
  rw [take_nth hk, List.any_append, h]; simp [hx]
theorem any_hit {α : Type} [Inhabited α] {p : α → Bool} {xs : List α} {k : Nat} (hk : k < xs.length) (hx : p (nth xs k) = true) : decide ((0 : Int) ≤ (k : Int)) = xs.any p := by
  have : xs.any p = true := List.any_eq_true.2 ⟨nth xs k, nth_mem hk, hx⟩
  rw [this]; simp
theorem any_none {α : Type} {p : α → Bool} {xs : List α} {k : Nat} (hk : xs.length ≤ k) (h : (xs.take k).any p = false) : decide ((0 : Int) ≤ -1) = xs.any p := by
  rw [List.take_of_length_le hk] at h; rw [h]; decide
theorem not_any_out (lo hi : Int) (xs : List Int) : (!(xs.any fun n => decide (n < lo ∨ hi < n))) = decide (∀ n ∈ xs, lo ≤ n ∧ n ≤ hi) := by
  rw [Bool.eq_iff_iff]
  simp only [Bool.not_eq_true', List.any_eq_false, decide_eq_true_eq]
  exact ⟨fun h n hn => by have := h n hn; omega, fun h n hn => by have := h n hn; omega⟩
def encI (n : Int) : List Value := [.int .i64 n]
theorem SlI.own {w : World} {b : Nat} {t : TypeId} {xs : List Int} (h : Blk w b t (xs.map (Value.int .i64))) : Sl encI 1 w (some ⟨b, 0, none⟩) b 0 xs :=
  ⟨fun _ => rfl, fun _ => h.lt, fun i hi j v hv => by
    cases j with
    | zero =>
      rw [nth_eq hi] at hv
      simp [encI] at hv
      subst hv
      exact h.get (off := 0 + i * 1 + 0) (by simp [hi])
    | succ j => simp [encI] at hv⟩

def cmpI3 (m n : Int) : Int := if m < n then -1 else if n < m then 1 else 0
def orI (a b : Int) : Int := if a ≠ 0 then a else b
theorem cmpS_eq (x y : Sp) : orI (cmpI3 x.b y.b) (cmpI3 x.e y.e) = cmpS x y := by
  unfold orI cmpI3 cmpS
  by_cases h1 : x.b < y.b
  · simp [h1]
  · by_cases h2 : y.b < x.b
    · simp [h1, h2]
    · simp [h1, h2]

theorem follows : Tryz.prog.follows .mixedOrders = true := by kernel_rfl

theorem own10 : Own Tryz.prog 10 := ⟨Tryz.f10, func10, by kernel_rfl, by kernel_rfl⟩
theorem own43 : Own Tryz.prog 43 := ⟨Tryz.f43, func43, by kernel_rfl, by kernel_rfl⟩
theorem own44 : Own Tryz.prog 44 := ⟨Tryz.f44, func44, by kernel_rfl, by kernel_rfl⟩
theorem own48 : Own Tryz.prog 48 := ⟨Tryz.f48, func48, by kernel_rfl, by kernel_rfl⟩
theorem own50 : Own Tryz.prog 50 := ⟨Tryz.f50, func50, by kernel_rfl, by kernel_rfl⟩
theorem own74 : Own Tryz.prog 74 := ⟨Tryz.f74, func74, by kernel_rfl, by kernel_rfl⟩
theorem own75 : Own Tryz.prog 75 := ⟨Tryz.f75, func75, by kernel_rfl, by kernel_rfl⟩
theorem own76 : Own Tryz.prog 76 := ⟨Tryz.f76, func76, by kernel_rfl, by kernel_rfl⟩
theorem own79 : Own Tryz.prog 79 := ⟨Tryz.f79, func79, by kernel_rfl, by kernel_rfl⟩
theorem own81 : Own Tryz.prog 81 := ⟨Tryz.f81, func81, by kernel_rfl, by kernel_rfl⟩
theorem own85 : Own Tryz.prog 85 := ⟨Tryz.f85, func85, by kernel_rfl, by kernel_rfl⟩
theorem own95 : Own Tryz.prog 95 := ⟨Tryz.f95, func95, by kernel_rfl, by kernel_rfl⟩
theorem own100 : Own Tryz.prog 100 := ⟨Tryz.f100, func100, by kernel_rfl, by kernel_rfl⟩
theorem own101 : Own Tryz.prog 101 := ⟨Tryz.f101, func101, by kernel_rfl, by kernel_rfl⟩
theorem own102 : Own Tryz.prog 102 := ⟨Tryz.f102, func102, by kernel_rfl, by kernel_rfl⟩
theorem own105 : Own Tryz.prog 105 := ⟨Tryz.f105, func105, by kernel_rfl, by kernel_rfl⟩
theorem own106 : Own Tryz.prog 106 := ⟨Tryz.f106, func106, by kernel_rfl, by kernel_rfl⟩
theorem own114 : Own Tryz.prog 114 := ⟨Tryz.f114, func114, by kernel_rfl, by kernel_rfl⟩
theorem own125 : Own Tryz.prog 125 := ⟨Tryz.f125, func125, by kernel_rfl, by kernel_rfl⟩

theorem isNaN_c (m : Int) (w0 : World) :
    CallsV Tryz.prog 125 [.int .i64 m] w0 (fun v w' => (v = .bool false ∧ Gr w0 w') ∧ Ext w0 w') := by
 refine f_enter (N := 6) func125 rfl rfl rfl (c_seq fun K1 hK1 => (c_region (t_assign rfl rfl rfl (t_nil' (hK1 _ _ (c_seq fun K2 hK2 => (c_region (t_move rfl rfl rfl (t_move rfl rfl rfl (t_cmp rfl rfl rfl rfl rfl (t_samehd (v := .bool false) (by simp) (t_assign rfl rfl rfl (t_nil' (hK2 _ _ (c_ret (f_ret1 (v := .bool false) results125 rfl ?_))))))))))))))))
 exact ⟨⟨rfl, Gr.refl _⟩, (Upd.refl (fun _ => False) w0)⟩

theorem cmpI_c (m n : Int) (w0 : World) :
    CallsV Tryz.prog 106 [.int .i64 m, .int .i64 n] w0 (fun v w' => (v = .int .i64 (cmpI3 m n) ∧ Gr w0 w') ∧ Ext w0 w') := by
 refine f_enter (N := 20) func106 rfl rfl rfl (c_seq fun K1 hK1 => (c_region (t_assign rfl rfl rfl (t_nil' (hK1 _ _ (c_seq fun K2 hK2 => (c_region (t_move rfl rfl rfl (t_call own125 rfl rfl rfl rfl (isNaN_c m _) (fun v3 w4 r6 => ?_))))))))))
 obtain ⟨⟨rfl, Gu5⟩, u5⟩ := r6
 have zu5 := u5.size
 refine t_assign rfl rfl rfl (t_nil' (hK2 _ _ (c_seq fun K8 hK8 => (c_region (t_move rfl rfl rfl (t_call own125 rfl rfl rfl rfl (isNaN_c n _) (fun v9 w10 r12 => ?_)))))))
 obtain ⟨⟨rfl, Gu11⟩, u11⟩ := r12
 have zu11 := u11.size
 have E13 := ((Upd.refl (fun _ => False) w0).nx u5).nx u11
 refine t_assign rfl rfl rfl (t_nil' (hK8 _ _ (c_seq fun K14 hK14 => (c_seq fun K15 hK15 => (c_region (t_move rfl rfl rfl (t_nil' (hK15 _ _ (c_cond_f rfl (c_skip (hK14 _ _ (c_seq fun K16 hK16 => (c_seq fun K17 hK17 => (c_region (t_move rfl rfl rfl (t_nil' (hK17 _ _ (c_cond_f rfl (c_skip (hK16 _ _ (c_seq fun K18 hK18 => (c_seq fun K19 hK19 => (c_region ?_)))))))))))))))))))))))
 refine t_move rfl rfl rfl (t_move rfl rfl rfl (t_cmp rfl rfl rfl rfl rfl (t_nil' (hK19 _ _ (c_condp rfl (fun g16 => ?_) (fun g16 => ?_))))))
 ·
  refine c_seq fun K20 hK20 => (c_region (t_assign rfl rfl rfl (t_nil' (hK20 _ _ (c_ret (f_ret1 (v := .int .i64 (-1)) results106 rfl ?_))))))
  exact ⟨⟨congrArg (Value.int .i64) (by unfold cmpI3; rw [if_pos g16]), (((Gr.refl _).trans Gu5).trans Gu11)⟩, E13⟩
 refine c_skip (hK18 _ _ (c_seq fun K21 hK21 => (c_seq fun K22 hK22 => (c_region (t_move rfl rfl rfl (t_move rfl rfl rfl (t_cmp rfl rfl rfl rfl rfl (t_nil' (hK22 _ _ (c_condp rfl (fun g19 => ?_) (fun g19 => ?_)))))))))))
 ·
  refine c_seq fun K23 hK23 => (c_region (t_assign rfl rfl rfl (t_nil' (hK23 _ _ (c_ret (f_ret1 (v := .int .i64 1) results106 rfl ?_))))))
  exact ⟨⟨congrArg (Value.int .i64) (by unfold cmpI3; rw [if_neg g16, if_pos g19]), (((Gr.refl _).trans Gu5).trans Gu11)⟩, E13⟩
 refine c_skip (hK21 _ _ (c_seq fun K24 hK24 => (c_region (t_assign rfl rfl rfl (t_nil' (hK24 _ _ (c_ret (f_ret1 (v := .int .i64 0) results106 rfl ?_))))))))
 exact ⟨⟨congrArg (Value.int .i64) (by unfold cmpI3; rw [if_neg g16, if_neg g19]), (((Gr.refl _).trans Gu5).trans Gu11)⟩, E13⟩

theorem orI_c (m n : Int) (b : Nat) (w0 : World) (hb : Blk w0 b 3 [.int .i64 m, .int .i64 n]) :
    CallsV Tryz.prog 105 [.slice (some ⟨b, 0, none⟩) 2 2] w0 (fun v w' => (v = .int .i64 (orI m n) ∧ Gr w0 w') ∧ Ext w0 w') := by
 have E0 := Upd.refl (fun _ => False) w0
 refine f_enter (N := 18) func105 rfl rfl rfl (c_seq fun K1 hK1 => (c_region (t_assign rfl rfl rfl (t_nil' (hK1 _ _ (c_seq fun K2 hK2 => (c_region (t_assign rfl rfl rfl (t_nil' (hK2 _ _ (c_seq fun K3 hK3 => (c_seq fun K4 hK4 => (c_region (t_move rfl rfl rfl (t_len underlying60 rfl rfl rfl rfl (t_move rfl rfl rfl (t_nil' (hK4 _ _ (c_block (c_rounds 3 (WR.weak [(3, .int .i64 0), (6, .slice (some ⟨b, 0, none⟩) 2 2), (7, .int .i64 2), (8, .int .i64 0)] ⟨rfl, rfl, rfl, rfl, trivial⟩ (r_round fun K5 hK5 => (c_seq fun K6 hK6 => ?_)))))))))))))))))))))))
 refine c_region (t_cmp rfl rfl rfl rfl rfl (t_samehd (v := .bool true) rfl (t_nil' (hK6 _ _ (c_seq fun K7 hK7 => (c_cond_t rfl (c_skip (hK7 _ _ (c_seq fun K8 hK8 => (c_block (c_seq fun K9 hK9 => (c_region (t_index (j := 0) underlying60 sizeOf3 rfl rfl rfl rfl rfl rfl (by omega) (t_load isAgg3 rfl rfl rfl (hb.get rfl) (t_assign rfl rfl rfl (t_nil' (hK9 _ _ (c_seq fun K10 hK10 => (c_region (t_move rfl rfl rfl (t_move rfl rfl rfl (t_cmp rfl rfl rfl rfl rfl (t_nil' ?_)))))))))))))))))))))))
 refine hK10 _ _ (c_condp rfl (fun g14 => ?_) (fun g14 => ?_))
 ·
  refine c_seq fun K11 hK11 => (c_region (t_move rfl rfl rfl (t_assign rfl rfl rfl (t_nil' (hK11 _ _ (c_ret (f_ret1 (v := .int .i64 m) results105 rfl ?_)))))))
  exact ⟨⟨congrArg (Value.int .i64) (by unfold orI; split <;> omega), (Gr.refl _)⟩, E0⟩
 refine c_skip (hK8 _ _ (c_region (t_ari rfl rfl rfl rfl rfl (by omega) (t_samehd (v := .int .i64 1) rfl (t_move rfl rfl rfl (t_nil' (hK5 _ _ (WR.weak [(3, .int .i64 0), (6, .slice (some ⟨b, 0, none⟩) 2 2), (7, .int .i64 2), (8, .int .i64 1)] ⟨rfl, rfl, rfl, rfl, trivial⟩ (r_round fun K12 hK12 => (c_seq fun K13 hK13 => (c_region (t_cmp rfl rfl rfl rfl rfl (t_samehd (v := .bool true) rfl (t_nil' (hK13 _ _ (c_seq fun K14 hK14 => (c_cond_t rfl (c_skip (hK14 _ _ (c_seq fun K15 hK15 => (c_block (c_seq fun K16 hK16 => (c_region ?_)))))))))))))))))))))))
 refine t_index (j := 1) underlying60 sizeOf3 rfl rfl rfl rfl rfl rfl (by omega) (t_load isAgg3 rfl rfl rfl (hb.get rfl) (t_assign rfl rfl rfl (t_nil' (hK16 _ _ (c_seq fun K17 hK17 => (c_region (t_move rfl rfl rfl (t_move rfl rfl rfl (t_cmp rfl rfl rfl rfl rfl (t_nil' (hK17 _ _ (c_condp rfl (fun g14 => ?_) (fun g14 => ?_)))))))))))))
 ·
  refine c_seq fun K18 hK18 => (c_region (t_move rfl rfl rfl (t_assign rfl rfl rfl (t_nil' (hK18 _ _ (c_ret (f_ret1 (v := .int .i64 n) results105 rfl ?_)))))))
  exact ⟨⟨congrArg (Value.int .i64) (by unfold orI; split <;> omega), (Gr.refl _)⟩, E0⟩
 refine c_skip (hK15 _ _ (c_region (t_ari rfl rfl rfl rfl rfl (by omega) (t_samehd (v := .int .i64 2) rfl (t_move rfl rfl rfl (t_nil' (hK12 _ _ (WR.weak [(3, .int .i64 0), (6, .slice (some ⟨b, 0, none⟩) 2 2), (7, .int .i64 2), (8, .int .i64 2)] ⟨rfl, rfl, rfl, rfl, trivial⟩ (r_round fun K19 hK19 => (c_seq fun K20 hK20 => (c_region (t_cmp rfl rfl rfl rfl rfl (t_samehd (v := .bool false) rfl (t_nil' (hK20 _ _ (c_seq fun K21 hK21 => (c_cond_f rfl (c_exit (hK3 _ _ (c_seq fun K22 hK22 => (c_region (t_move rfl rfl rfl (t_assign rfl rfl rfl ?_)))))))))))))))))))))))
 refine t_nil' (hK22 _ _ (c_ret (f_ret1 (v := .int .i64 0) results105 rfl ?_)))
 exact ⟨⟨congrArg (Value.int .i64) (by unfold orI; split <;> omega), (Gr.refl _)⟩, E0⟩

theorem compare_c (x y : Sp) (w0 : World) :
    CallsV Tryz.prog 81 [.agg #[.int .i64 x.b, .int .i64 x.e], .agg #[.int .i64 y.b, .int .i64 y.e]] w0 (fun v w' => (v = .int .i64 (cmpS x y) ∧ Gr w0 w') ∧ Ext w0 w') := by
 refine f_enter (N := 17) func81 rfl rfl rfl (c_seq fun K1 hK1 => (c_region (t_boxG (cs := [.int .i64 x.b, .int .i64 x.e]) rfl rfl rfl rfl (fun bk2 w3 ebk2 sbk2 B4 u5 Gu5 => ?_))))
 have zu5 := u5.size
 refine t_boxG (cs := [.int .i64 y.b, .int .i64 y.e]) rfl rfl rfl rfl (fun bk7 w8 ebk7 sbk7 B9 u10 Gu10 => ?_)
 have zu10 := u10.size
 refine t_assign rfl rfl rfl (t_nil' (hK1 _ _ (c_seq fun K12 hK12 => (c_drawnMG follows (fun _ => False) (.look 0 (.look 1 (.look 2 (.look 3 (.look 5 (.look 6 (.look 7 (.look 8 (.act 4 (.act 9 (.act 10 (.act 11 (.look 12 .done) .stop) .stop) .stop) .stop))))))))) (by kernel_rfl) fun w13 u14 Gu14 => ?_))))
 have zu14 := u14.size
 refine y_field underlying109 rfl sizeOf3 (0) rfl rfl rfl rfl ?_
 have B16 := ((B4.kx u10).kx u14)
 refine y_load isAgg3 rfl rfl rfl (B16.get rfl) (fun h => h) (y_field underlying109 rfl sizeOf3 (0) rfl rfl rfl rfl ?_)
 have B17 := (B9.kx u14)
 refine y_load isAgg3 rfl rfl rfl (B17.get rfl) (fun h => h) (y_field underlying109 rfl sizeOf3 (1) rfl rfl rfl rfl (y_load isAgg3 rfl rfl rfl (B16.get rfl) (fun h => h) (y_field underlying109 rfl sizeOf3 (1) rfl rfl rfl rfl (y_load isAgg3 rfl rfl rfl (B17.get rfl) (fun h => h) (s_do (t_call own106 rfl rfl rfl rfl (cmpI_c x.b y.b _) (fun v18 w19 r21 => ?_)))))))
 obtain ⟨⟨rfl, Gu20⟩, u20⟩ := r21
 have zu20 := u20.size
 refine s_next ((Upd.refl _ _).nx u20) (s_do (t_call own106 rfl rfl rfl rfl (cmpI_c x.e y.e _) (fun v23 w24 r26 => ?_)))
 obtain ⟨⟨rfl, Gu25⟩, u25⟩ := r26
 have zu25 := u25.size
 refine s_next ((Upd.refl _ _).nx u25) (s_do (t_bsliceG (ps := [(0, .int .i64 (cmpI3 x.b y.b)), (1, .int .i64 (cmpI3 x.e y.e))]) (cs := [.int .i64 (cmpI3 x.b y.b), .int .i64 (cmpI3 x.e y.e)]) (e := 3) rfl rfl ⟨rfl, rfl⟩ (fun w => by kernel_rfl) (fun bk28 w29 ebk28 sbk28 B30 u31 Gu31 => ?_)))
 have zu31 := u31.size
 refine s_next ((Upd.refl _ _).nx u31) (s_do (t_call own105 rfl rfl rfl rfl (orI_c (cmpI3 x.b y.b) (cmpI3 x.e y.e) bk28 _ B30) (fun v33 w34 r36 => ?_)))
 obtain ⟨⟨rfl, Gu35⟩, u35⟩ := r36
 have zu35 := u35.size
 refine s_next ((Upd.refl _ _).nx u35) (y_assign rfl rfl rfl (s_nil (hK12 _ _ (c_ret (f_ret1 (v := .int .i64 (orI (cmpI3 x.b y.b) (cmpI3 x.e y.e))) results81 rfl ?_)))))
 exact ⟨⟨congrArg (Value.int .i64) (cmpS_eq x y), ((((((((Gr.refl _).trans Gu5).trans Gu10).trans Gu14).trans Gu20).trans Gu25).trans Gu31).trans Gu35)⟩, ((((((((Upd.refl (fun _ => False) w0).nx u5).nx u10).nx u14).nx u20).nx u25).nx u31).nx u35)⟩

abbrev out1 (lo hi n : Int) : Bool := decide (n < lo ∨ hi < n)

theorem within1_c (lo hi n : Int) (b c : Nat) (t1 t2 : TypeId) (w0 : World) (hb : Blk w0 b t1 [.int .i64 lo]) (hc : Blk w0 c t2 [.int .i64 hi]) :
    CallsV Tryz.prog 75 [.int .i64 n, .pointer (some ⟨b, 0, none⟩), .pointer (some ⟨c, 0, none⟩)] w0 (fun v w' => v = .bool (out1 lo hi n) ∧ Ext w0 w') := by
 have E0 := Upd.refl (fun _ => False) w0
 refine f_enter (N := 13) func75 rfl rfl rfl (c_seq fun K1 hK1 => (c_region (t_assign rfl rfl rfl (t_nil' (hK1 _ _ (c_seq fun K2 hK2 => (c_region (t_move rfl rfl rfl (t_load isAgg3 rfl rfl rfl (hb.get rfl) (t_cmp rfl rfl rfl rfl rfl (t_move rfl rfl rfl (t_splitp 8 rfl (fun g8 => ?_) (fun g8 => ?_)))))))))))))
 ·
  refine t_skip rfl rfl rfl (t_skip rfl rfl rfl (t_skip rfl rfl rfl (t_pick_t rfl rfl rfl rfl (t_assign rfl rfl rfl (t_nil' (hK2 _ _ (c_ret (f_ret1 (v := .bool true) results75 rfl ?_))))))))
  exact ⟨by simp [out1, *], E0⟩
 refine t_move rfl rfl rfl (t_load isAgg3 rfl rfl rfl (hc.get rfl) (t_cmp rfl rfl rfl rfl rfl (t_pick_f rfl rfl rfl rfl (t_assign rfl rfl rfl (t_nil' (hK2 _ _ (c_ret (f_ret1 (v := .bool (decide (hi < n))) results75 rfl ?_))))))))
 exact ⟨by simp [out1, *], E0⟩

theorem indexI_c (p : Int → Bool) (fv : FuncId) (caps : List Value) (xs : List Int) (ao : Option Addr) (b o cap : Nat) (w0 : World) (ho : Own Tryz.prog fv) (hp : ∀ x ∈ xs, ∀ w, Ext w0 w → CallsV Tryz.prog fv ([.int .i64 x] ++ caps) w fun v w' => v = .bool (p x) ∧ Ext w w') (hs : Sl encI 1 w0 ao b o xs) (hl : xs.length ≤ 1000000) :
    CallsV Tryz.prog 100 [.slice ao xs.length cap, .func (.func fv) #[] (caps).toArray] w0 (fun v w' => (∃ n : Int, v = .int .i64 n ∧ decide (0 ≤ n) = xs.any p) ∧ Ext w0 w') := by
 refine f_enter (N := 19) func100 rfl rfl rfl (c_seq fun K1 hK1 => (c_region (t_assign rfl rfl rfl (t_nil' (hK1 _ _ (c_seq fun K2 hK2 => (c_seq fun K3 hK3 => (c_region (t_move rfl rfl rfl (t_len underlying60 rfl rfl rfl rfl (t_move rfl rfl rfl (t_nil' (hK3 _ _ (c_block (c_loop (γ := Nat) (fun k => [(0, .slice ao xs.length cap), (1, .func (.func fv) #[] (caps).toArray), (7, .int .i64 (xs.length : Int)), (8, .int .i64 (k : Int))]) (fun k w => Upd (fun _ => False) w0 w ∧ (k ≤ xs.length) ∧ ((xs.take k).any p = false)) (fun k => xs.length - k) 0 ⟨rfl, rfl, rfl, rfl, trivial⟩ ⟨Upd.refl _ _, Nat.zero_le _, (by simp)⟩ ?_)))))))))))))))
 intro k w5 hW K4 hK4
 obtain ⟨u6, I7, I8⟩ := hW
 have zu6 := u6.size
 have E9 := (Upd.refl (fun _ => False) w0).nx u6
 have hle := I7; clear I7
 have hnot := I8; clear I8
 refine c_seq fun K10 hK10 => (c_region (t_cmp rfl rfl rfl rfl rfl (t_nil' (hK10 _ _ (c_seq fun K11 hK11 => (c_condp rfl (fun g9 => ?_) (fun g9 => ?_)))))))
 ·
  refine c_skip (hK11 _ _ (c_seq fun K12 hK12 => (c_block (c_seq fun K13 hK13 => (c_region (t_move rfl rfl rfl (t_assign rfl rfl rfl (t_nil' (hK13 _ _ (c_seq fun K14 hK14 => (c_region (t_move rfl rfl rfl (t_move rfl rfl rfl (t_move rfl rfl rfl ?_))))))))))))))
  have i15 : k < xs.length := (by omega)
  refine t_index (j := k) underlying60 sizeOf3 rfl rfl rfl rfl ((hs.keep E9 (fun _ h => h)).addr (by omega)) rfl i15 (t_load isAgg3 rfl rfl rfl (((hs.keep E9 (fun _ h => h)).at_ k (by omega)) 0 _ rfl) (t_call (fs := []) (cs := caps) ho rfl rfl rfl rfl (hp (nth xs k) (nth_mem (by omega)) _ E9) (fun v16 w17 r19 => ?_)))
  obtain ⟨rfl, u18⟩ := r19
  have zu18 := u18.size
  refine t_nil' (hK14 _ _ (c_cond rfl (fun g16 => ?_) (fun g16 => ?_)))
  ·
   refine c_seq fun K21 hK21 => (c_region (t_move rfl rfl rfl (t_assign rfl rfl rfl (t_nil' (hK21 _ _ (c_ret (f_ret1 (v := .int .i64 (k : Int)) results100 rfl ?_)))))))
   exact ⟨⟨_, rfl, any_hit (by omega) g16⟩, (E9.nx u18)⟩
  refine c_skip (hK12 _ _ (c_region (t_ari rfl rfl rfl rfl rfl (by omega) (t_move rfl rfl rfl (t_nil' ?_)))))
  exact hK4 (k + 1) _ _ (by omega) ⟨rfl, rfl, rfl, rfl, trivial⟩ ⟨(u6.nx u18), (by omega), (any_snoc (by omega) hnot g16)⟩
 refine c_exit (hK2 _ _ (c_seq fun K22 hK22 => (c_region (t_assign rfl rfl rfl (t_nil' (hK22 _ _ (c_ret (f_ret1 (v := .int .i64 (-1)) results100 rfl ?_))))))))
 exact ⟨⟨_, rfl, any_none (by omega) hnot⟩, E9⟩

theorem containsI_c (p : Int → Bool) (fv : FuncId) (caps : List Value) (xs : List Int) (ao : Option Addr) (b o cap : Nat) (w0 : World) (ho : Own Tryz.prog fv) (hp : ∀ x ∈ xs, ∀ w, Ext w0 w → CallsV Tryz.prog fv ([.int .i64 x] ++ caps) w fun v w' => v = .bool (p x) ∧ Ext w w') (hs : Sl encI 1 w0 ao b o xs) (hl : xs.length ≤ 1000000) :
    CallsV Tryz.prog 74 [.slice ao xs.length cap, .func (.func fv) #[] (caps).toArray] w0 (fun v w' => v = .bool (xs.any p) ∧ Ext w0 w') := by
 refine f_enter (N := 9) func74 rfl rfl rfl (c_seq fun K1 hK1 => (c_region (t_assign rfl rfl rfl (t_nil' (hK1 _ _ (c_seq fun K2 hK2 => (c_region (t_move rfl rfl rfl (t_move rfl rfl rfl (t_call own100 rfl rfl rfl rfl (indexI_c p fv caps xs ao b o cap _ ho hp hs hl) (fun v3 w4 r6 => ?_)))))))))))
 obtain ⟨⟨n, rfl, hn⟩, u5⟩ := r6
 have zu5 := u5.size
 refine t_cmp rfl rfl rfl rfl rfl (t_assign rfl rfl rfl (t_nil' (hK2 _ _ (c_ret (f_ret1 (v := .bool (decide (0 ≤ n))) results74 rfl ?_)))))
 exact ⟨by rw [hn], ((Upd.refl (fun _ => False) w0).nx u5)⟩

theorem indexD_c {α : Type} [Inhabited α] (enc : α → List Value) (hk : ∀ x, (enc x).length = 4) (p : α → Bool) (fv : FuncId) (caps : List Value) (xs : List α) (ao : Option Addr) (b o cap : Nat) (w0 : World) (ho : Own Tryz.prog fv) (hp : ∀ x ∈ xs, ∀ w, Ext w0 w → CallsV Tryz.prog fv ([.agg (enc x).toArray] ++ caps) w fun v w' => v = .bool (p x) ∧ Ext w w') (hs : Sl enc 4 w0 ao b o xs) (hl : xs.length ≤ 1000000) :
    CallsV Tryz.prog 114 [.slice ao xs.length cap, .func (.func fv) #[] (caps).toArray] w0 (fun v w' => (∃ n : Int, v = .int .i64 n ∧ decide (0 ≤ n) = xs.any p) ∧ Ext w0 w') := by
 refine f_enter (N := 19) func114 rfl rfl rfl (c_seq fun K1 hK1 => (c_region (t_assign rfl rfl rfl (t_nil' (hK1 _ _ (c_seq fun K2 hK2 => (c_seq fun K3 hK3 => (c_region (t_move rfl rfl rfl (t_len underlying24 rfl rfl rfl rfl (t_move rfl rfl rfl (t_nil' (hK3 _ _ (c_block (c_loop (γ := Nat) (fun k => [(0, .slice ao xs.length cap), (1, .func (.func fv) #[] (caps).toArray), (7, .int .i64 (xs.length : Int)), (8, .int .i64 (k : Int))]) (fun k w => Upd (fun _ => False) w0 w ∧ (k ≤ xs.length) ∧ ((xs.take k).any p = false)) (fun k => xs.length - k) 0 ⟨rfl, rfl, rfl, rfl, trivial⟩ ⟨Upd.refl _ _, Nat.zero_le _, (by simp)⟩ ?_)))))))))))))))
 intro k w5 hW K4 hK4
 obtain ⟨u6, I7, I8⟩ := hW
 have zu6 := u6.size
 have E9 := (Upd.refl (fun _ => False) w0).nx u6
 have hle := I7; clear I7
 have hnot := I8; clear I8
 refine c_seq fun K10 hK10 => (c_region (t_cmp rfl rfl rfl rfl rfl (t_nil' (hK10 _ _ (c_seq fun K11 hK11 => (c_condp rfl (fun g9 => ?_) (fun g9 => ?_)))))))
 ·
  refine c_skip (hK11 _ _ (c_seq fun K12 hK12 => (c_block (c_seq fun K13 hK13 => (c_region (t_move rfl rfl rfl (t_assign rfl rfl rfl (t_nil' (hK13 _ _ (c_seq fun K14 hK14 => (c_region (t_move rfl rfl rfl (t_move rfl rfl rfl (t_move rfl rfl rfl ?_))))))))))))))
  have i15 : k < xs.length := (by omega)
  refine t_index (j := k) underlying24 sizeOf37 rfl rfl rfl rfl ((hs.keep E9 (fun _ h => h)).addr (by omega)) rfl i15 (t_loadN (vs := enc (nth xs k)) isAgg37 sizeOf37 rfl rfl rfl ((hs.keep E9 (fun _ h => h)).at_ k (by omega)) (hk _) (t_call (fs := []) (cs := caps) ho rfl rfl rfl rfl (hp (nth xs k) (nth_mem (by omega)) _ E9) (fun v16 w17 r19 => ?_)))
  obtain ⟨rfl, u18⟩ := r19
  have zu18 := u18.size
  refine t_nil' (hK14 _ _ (c_cond rfl (fun g16 => ?_) (fun g16 => ?_)))
  ·
   refine c_seq fun K21 hK21 => (c_region (t_move rfl rfl rfl (t_assign rfl rfl rfl (t_nil' (hK21 _ _ (c_ret (f_ret1 (v := .int .i64 (k : Int)) results114 rfl ?_)))))))
   exact ⟨⟨_, rfl, any_hit (by omega) g16⟩, (E9.nx u18)⟩
  refine c_skip (hK12 _ _ (c_region (t_ari rfl rfl rfl rfl rfl (by omega) (t_move rfl rfl rfl (t_nil' ?_)))))
  exact hK4 (k + 1) _ _ (by omega) ⟨rfl, rfl, rfl, rfl, trivial⟩ ⟨(u6.nx u18), (by omega), (any_snoc (by omega) hnot g16)⟩
 refine c_exit (hK2 _ _ (c_seq fun K22 hK22 => (c_region (t_assign rfl rfl rfl (t_nil' (hK22 _ _ (c_ret (f_ret1 (v := .int .i64 (-1)) results114 rfl ?_))))))))
 exact ⟨⟨_, rfl, any_none (by omega) hnot⟩, E9⟩

theorem containsD_c {α : Type} [Inhabited α] (enc : α → List Value) (hk : ∀ x, (enc x).length = 4) (p : α → Bool) (fv : FuncId) (caps : List Value) (xs : List α) (ao : Option Addr) (b o cap : Nat) (w0 : World) (ho : Own Tryz.prog fv) (hp : ∀ x ∈ xs, ∀ w, Ext w0 w → CallsV Tryz.prog fv ([.agg (enc x).toArray] ++ caps) w fun v w' => v = .bool (p x) ∧ Ext w w') (hs : Sl enc 4 w0 ao b o xs) (hl : xs.length ≤ 1000000) :
    CallsV Tryz.prog 101 [.slice ao xs.length cap, .func (.func fv) #[] (caps).toArray] w0 (fun v w' => v = .bool (xs.any p) ∧ Ext w0 w') := by
 refine f_enter (N := 9) func101 rfl rfl rfl (c_seq fun K1 hK1 => (c_region (t_assign rfl rfl rfl (t_nil' (hK1 _ _ (c_seq fun K2 hK2 => (c_region (t_move rfl rfl rfl (t_move rfl rfl rfl (t_call own114 rfl rfl rfl rfl (indexD_c enc hk p fv caps xs ao b o cap _ ho hp hs hl) (fun v3 w4 r6 => ?_)))))))))))
 obtain ⟨⟨n, rfl, hn⟩, u5⟩ := r6
 have zu5 := u5.size
 refine t_cmp rfl rfl rfl rfl rfl (t_assign rfl rfl rfl (t_nil' (hK2 _ _ (c_ret (f_ret1 (v := .bool (decide (0 ≤ n))) results101 rfl ?_)))))
 exact ⟨by rw [hn], ((Upd.refl (fun _ => False) w0).nx u5)⟩

theorem within_c (lo hi : Int) (xs : List Int) (ao : Option Addr) (b o cap : Nat) (w0 : World) (hs : Sl encI 1 w0 ao b o xs) (hl : xs.length ≤ 1000000) :
    CallsV Tryz.prog 43 [.int .i64 lo, .int .i64 hi, .slice ao xs.length cap] w0 (fun v w' => v = .bool (decide (∀ n ∈ xs, lo ≤ n ∧ n ≤ hi)) ∧ Ext w0 w') := by
 refine f_enter (N := 11) func43 rfl rfl rfl (c_seq fun K1 hK1 => (c_region (t_box (cs := [.int .i64 lo]) rfl rfl rfl rfl (fun bk2 w3 ebk2 sbk2 B4 u5 => ?_))))
 have zu5 := u5.size
 refine t_box (cs := [.int .i64 hi]) rfl rfl rfl rfl (fun bk7 w8 ebk7 sbk7 B9 u10 => ?_)
 have zu10 := u10.size
 have E11 := ((Upd.refl (fun _ => False) w0).nx u5).nx u10
 refine t_assign rfl rfl rfl (t_nil' (hK1 _ _ (c_seq fun K12 hK12 => (c_region (t_move rfl rfl rfl (t_mkfunc (vs := []) (us := [.pointer (some ⟨bk2, 0, none⟩), .pointer (some ⟨bk7, 0, none⟩)]) rfl rfl rfl rfl ?_))))))
 have B13 := (B4.kx u10)
 refine t_call own74 rfl rfl rfl rfl (containsI_c (out1 lo hi) 75 [.pointer (some ⟨bk2, 0, none⟩), .pointer (some ⟨bk7, 0, none⟩)] xs ao b o cap _ own75 (fun x _ w u => within1_c lo hi x bk2 bk7 _ _ w (B13.keep u (fun h => h)) (B9.keep u (fun h => h))) (hs.keep E11 (fun _ h => h)) hl) (fun v14 w15 r17 => ?_)
 obtain ⟨rfl, u16⟩ := r17
 have zu16 := u16.size
 refine t_not rfl rfl rfl (t_assign rfl rfl rfl (t_nil' (hK12 _ _ (c_ret (f_ret1 (v := .bool (!(xs.any (out1 lo hi)))) results43 rfl ?_)))))
 exact ⟨by rw [not_any_out], (E11.nx u16)⟩

theorem within1_v (lo hi m : Int) (b : Nat) (t : TypeId) (w : World) (h : Blk w b t [.int .i64 m]) :
    CallsV Tryz.prog 43 [.int .i64 lo, .int .i64 hi, .slice (some ⟨b, 0, none⟩) 1 1] w (fun v w' => v = .bool (decide ((lo ≤ m ∧ m ≤ hi))) ∧ Ext w w') :=
  (within_c lo hi [m] _ b 0 1 w (SlI.own (xs := [m]) h) (by simp)).mono fun v w' ⟨e, u⟩ => ⟨by rw [e]; simp, u⟩

theorem within2_v (lo hi m n : Int) (b : Nat) (t : TypeId) (w : World) (h : Blk w b t [.int .i64 m, .int .i64 n]) :
    CallsV Tryz.prog 43 [.int .i64 lo, .int .i64 hi, .slice (some ⟨b, 0, none⟩) 2 2] w (fun v w' => v = .bool (decide ((lo ≤ m ∧ m ≤ hi) ∧ (lo ≤ n ∧ n ≤ hi))) ∧ Ext w w') :=
  (within_c lo hi [m, n] _ b 0 2 w (SlI.own (xs := [m, n]) h) (by simp)).mono fun v w' ⟨e, u⟩ => ⟨by rw [e]; simp, u⟩

theorem within4_v (lo hi m n q r : Int) (b : Nat) (t : TypeId) (w : World) (h : Blk w b t [.int .i64 m, .int .i64 n, .int .i64 q, .int .i64 r]) :
    CallsV Tryz.prog 43 [.int .i64 lo, .int .i64 hi, .slice (some ⟨b, 0, none⟩) 4 4] w (fun v w' => v = .bool (decide ((lo ≤ m ∧ m ≤ hi) ∧ (lo ≤ n ∧ n ≤ hi) ∧ (lo ≤ q ∧ q ≤ hi) ∧ (lo ≤ r ∧ r ≤ hi))) ∧ Ext w w') :=
  (within_c lo hi [m, n, q, r] _ b 0 4 w (SlI.own (xs := [m, n, q, r]) h) (by simp)).mono fun v w' ⟨e, u⟩ => ⟨by rw [e]; simp, u⟩

theorem within5_v (lo hi m n q r s : Int) (b : Nat) (t : TypeId) (w : World) (h : Blk w b t [.int .i64 m, .int .i64 n, .int .i64 q, .int .i64 r, .int .i64 s]) :
    CallsV Tryz.prog 43 [.int .i64 lo, .int .i64 hi, .slice (some ⟨b, 0, none⟩) 5 5] w (fun v w' => v = .bool (decide ((lo ≤ m ∧ m ≤ hi) ∧ (lo ≤ n ∧ n ≤ hi) ∧ (lo ≤ q ∧ q ≤ hi) ∧ (lo ≤ r ∧ r ≤ hi) ∧ (lo ≤ s ∧ s ≤ hi))) ∧ Ext w w') :=
  (within_c lo hi [m, n, q, r, s] _ b 0 5 w (SlI.own (xs := [m, n, q, r, s]) h) (by simp)).mono fun v w' ⟨e, u⟩ => ⟨by rw [e]; simp, u⟩

theorem Check_c (r : Rul) (w0 : World) :
    CallsV Tryz.prog 10 [.agg #[.int .i64 r.rest, .int .i64 r.span, .int .i64 r.work, .int .i64 r.week, .int .i64 r.ww]] w0 (fun v w' => v = .int .i64 (chkR r) ∧ Ext w0 w') := by
 refine f_enter (N := 16) func10 rfl rfl rfl (c_seq fun K1 hK1 => (c_region (t_box (cs := [.int .i64 r.rest, .int .i64 r.span, .int .i64 r.work, .int .i64 r.week, .int .i64 r.ww]) rfl rfl rfl rfl (fun bk2 w3 ebk2 sbk2 B4 u5 => ?_))))
 have zu5 := u5.size
 refine t_assign rfl rfl rfl (t_nil' (hK1 _ _ (c_seq fun K7 hK7 => (c_seq fun K8 hK8 => (c_region (t_field underlying23 rfl sizeOf3 (0) rfl rfl rfl rfl (t_load isAgg3 rfl rfl rfl (B4.get rfl) (t_field underlying23 rfl sizeOf3 (1) rfl rfl rfl rfl (t_load isAgg3 rfl rfl rfl (B4.get rfl) (t_field underlying23 rfl sizeOf3 (2) rfl rfl rfl rfl (t_load isAgg3 rfl rfl rfl (B4.get rfl) (t_field underlying23 rfl sizeOf3 (3) rfl rfl rfl rfl (t_load isAgg3 rfl rfl rfl (B4.get rfl) (t_field underlying23 rfl sizeOf3 (4) rfl rfl rfl rfl (t_load isAgg3 rfl rfl rfl (B4.get rfl) (t_bslice (ps := [(0, .int .i64 r.rest), (1, .int .i64 r.span), (2, .int .i64 r.work), (3, .int .i64 r.week), (4, .int .i64 r.ww)]) (cs := [.int .i64 r.rest, .int .i64 r.span, .int .i64 r.work, .int .i64 r.week, .int .i64 r.ww]) (e := 3) rfl rfl ⟨rfl, rfl⟩ (fun w => by kernel_rfl) (fun bk9 w10 ebk9 sbk9 B11 u12 => ?_)))))))))))))))))
 have zu12 := u12.size
 refine t_call own43 rfl rfl rfl rfl (within5_v 1 20160 r.rest r.span r.work r.week r.ww _ _ _ B11) (fun v14 w15 r17 => ?_)
 obtain ⟨rfl, u16⟩ := r17
 have zu16 := u16.size
 have E18 := (((Upd.refl (fun _ => False) w0).nx u5).nx u12).nx u16
 refine t_notp rfl rfl rfl (t_nil' (hK8 _ _ (c_condp rfl (fun g15 => ?_) (fun g15 => ?_))))
 ·
  refine c_seq fun K19 hK19 => (c_region (t_assign rfl rfl rfl (t_nil' (hK19 _ _ (c_ret (f_ret1 (v := .int .i64 2) results10 rfl ?_))))))
  exact ⟨congrArg (Value.int .i64) (by unfold chkR okRul; simp only [decide_eq_true_eq]; split <;> first | rfl | omega), E18⟩
 refine c_skip (hK7 _ _ (c_seq fun K20 hK20 => (c_region (t_assign rfl rfl rfl (t_nil' (hK20 _ _ (c_ret (f_ret1 (v := .int .i64 0) results10 rfl ?_))))))))
 exact ⟨congrArg (Value.int .i64) (by unfold chkR okRul; simp only [decide_eq_true_eq]; split <;> first | rfl | omega), E18⟩

theorem isDuty_c (d : Dty) (w0 : World) :
    CallsV Tryz.prog 95 [.agg #[.int .i64 d.bl, .int .i64 d.bh, .int .i64 d.el, .int .i64 d.eh]] w0 (fun v w' => v = .bool (okDty d) ∧ Ext w0 w') := by
 refine f_enter (N := 44) func95 rfl rfl rfl (c_seq fun K1 hK1 => (c_region (t_box (cs := [.int .i64 d.bl, .int .i64 d.bh, .int .i64 d.el, .int .i64 d.eh]) rfl rfl rfl rfl (fun bk2 w3 ebk2 sbk2 B4 u5 => ?_))))
 have zu5 := u5.size
 refine t_assign rfl rfl rfl (t_nil' (hK1 _ _ (c_seq fun K7 hK7 => (c_region (t_field underlying37 rfl sizeOf35 (0) rfl rfl rfl rfl (t_field underlying35 rfl sizeOf3 (0) rfl rfl rfl rfl (t_load isAgg3 rfl rfl rfl (B4.get rfl) (t_field underlying37 rfl sizeOf35 (0) rfl rfl rfl rfl (t_field underlying35 rfl sizeOf3 (1) rfl rfl rfl rfl (t_load isAgg3 rfl rfl rfl (B4.get rfl) (t_field underlying37 rfl sizeOf35 (2) rfl rfl rfl rfl (t_field underlying35 rfl sizeOf3 (2) rfl rfl rfl rfl (t_load isAgg3 rfl rfl rfl (B4.get rfl) (t_field underlying37 rfl sizeOf35 (2) rfl rfl rfl rfl (t_field underlying35 rfl sizeOf3 (3) rfl rfl rfl rfl (t_load isAgg3 rfl rfl rfl (B4.get rfl) (t_bslice (ps := [(0, .int .i64 d.bl), (1, .int .i64 d.bh), (2, .int .i64 d.el), (3, .int .i64 d.eh)]) (cs := [.int .i64 d.bl, .int .i64 d.bh, .int .i64 d.el, .int .i64 d.eh]) (e := 3) rfl rfl ⟨rfl, rfl⟩ (fun w => by kernel_rfl) (fun bk8 w9 ebk8 sbk8 B10 u11 => ?_))))))))))))))))))
 have zu11 := u11.size
 refine t_call own43 rfl rfl rfl rfl (within4_v 0 20160 d.bl d.bh d.el d.eh _ _ _ B10) (fun v13 w14 r16 => ?_)
 obtain ⟨rfl, u15⟩ := r16
 have zu15 := u15.size
 have E17 := (((Upd.refl (fun _ => False) w0).nx u5).nx u11).nx u15
 refine t_move rfl rfl rfl (t_splitp 17 rfl (fun g17 => ?_) (fun g17 => ?_))
 ·
  refine t_field underlying37 rfl sizeOf35 (0) rfl rfl rfl rfl (t_field underlying35 rfl sizeOf3 (0) rfl rfl rfl rfl ?_)
  have B18 := ((B4.kx u11).kx u15)
  refine t_load isAgg3 rfl rfl rfl (B18.get rfl) (t_field underlying37 rfl sizeOf35 (0) rfl rfl rfl rfl (t_field underlying35 rfl sizeOf3 (1) rfl rfl rfl rfl (t_load isAgg3 rfl rfl rfl (B18.get rfl) (t_cmp rfl rfl rfl rfl rfl (t_pick_t rfl rfl rfl rfl (t_move rfl rfl rfl (t_splitp 26 rfl (fun g26 => ?_) (fun g26 => ?_))))))))
  ·
   refine t_field underlying37 rfl sizeOf35 (0) rfl rfl rfl rfl (t_field underlying35 rfl sizeOf3 (1) rfl rfl rfl rfl (t_load isAgg3 rfl rfl rfl (B18.get rfl) (t_field underlying37 rfl sizeOf35 (2) rfl rfl rfl rfl (t_field underlying35 rfl sizeOf3 (2) rfl rfl rfl rfl (t_load isAgg3 rfl rfl rfl (B18.get rfl) (t_cmp rfl rfl rfl rfl rfl (t_pick_t rfl rfl rfl rfl (t_move rfl rfl rfl (t_splitp 35 rfl (fun g35 => ?_) (fun g35 => ?_))))))))))
   ·
    refine t_field underlying37 rfl sizeOf35 (2) rfl rfl rfl rfl (t_field underlying35 rfl sizeOf3 (2) rfl rfl rfl rfl (t_load isAgg3 rfl rfl rfl (B18.get rfl) (t_field underlying37 rfl sizeOf35 (2) rfl rfl rfl rfl (t_field underlying35 rfl sizeOf3 (3) rfl rfl rfl rfl (t_load isAgg3 rfl rfl rfl (B18.get rfl) (t_cmp rfl rfl rfl rfl rfl (t_pick_t rfl rfl rfl rfl (t_assign rfl rfl rfl (t_nil' (hK7 _ _ (c_ret (f_ret1 (v := .bool (decide (d.el ≤ d.eh))) results95 rfl ?_))))))))))))
    exact ⟨congrArg Value.bool (by rw [Bool.eq_iff_iff]; simp [okDty] <;> omega), E17⟩
   refine t_skip rfl rfl rfl (t_skip rfl rfl rfl (t_skip rfl rfl rfl (t_skip rfl rfl rfl (t_skip rfl rfl rfl (t_skip rfl rfl rfl (t_skip rfl rfl rfl (t_pick_f rfl rfl rfl rfl (t_assign rfl rfl rfl (t_nil' (hK7 _ _ (c_ret (f_ret1 (v := .bool false) results95 rfl ?_))))))))))))
   exact ⟨congrArg Value.bool (by rw [Bool.eq_iff_iff]; simp [okDty] <;> omega), E17⟩
  refine t_skip rfl rfl rfl (t_skip rfl rfl rfl (t_skip rfl rfl rfl (t_skip rfl rfl rfl (t_skip rfl rfl rfl (t_skip rfl rfl rfl (t_skip rfl rfl rfl (t_pick_f rfl rfl rfl rfl (t_move rfl rfl rfl (t_skip rfl rfl rfl (t_skip rfl rfl rfl (t_skip rfl rfl rfl (t_skip rfl rfl rfl (t_skip rfl rfl rfl (t_skip rfl rfl rfl (t_skip rfl rfl rfl (t_pick_f rfl rfl rfl rfl (t_assign rfl rfl rfl (t_nil' (hK7 _ _ (c_ret (f_ret1 (v := .bool false) results95 rfl ?_)))))))))))))))))))))
  exact ⟨congrArg Value.bool (by rw [Bool.eq_iff_iff]; simp [okDty] <;> omega), E17⟩
 refine t_skip rfl rfl rfl (t_skip rfl rfl rfl (t_skip rfl rfl rfl (t_skip rfl rfl rfl (t_skip rfl rfl rfl (t_skip rfl rfl rfl (t_skip rfl rfl rfl (t_pick_f rfl rfl rfl rfl (t_move rfl rfl rfl (t_skip rfl rfl rfl (t_skip rfl rfl rfl (t_skip rfl rfl rfl (t_skip rfl rfl rfl (t_skip rfl rfl rfl (t_skip rfl rfl rfl (t_skip rfl rfl rfl (t_pick_f rfl rfl rfl rfl (t_move rfl rfl rfl (t_skip rfl rfl rfl (t_skip rfl rfl rfl (t_skip rfl rfl rfl (t_skip rfl rfl rfl (t_skip rfl rfl rfl (t_skip rfl rfl rfl ?_)))))))))))))))))))))))
 refine t_skip rfl rfl rfl (t_pick_f rfl rfl rfl rfl (t_assign rfl rfl rfl (t_nil' (hK7 _ _ (c_ret (f_ret1 (v := .bool false) results95 rfl ?_))))))
 exact ⟨congrArg Value.bool (by rw [Bool.eq_iff_iff]; simp [okDty] <;> omega), E17⟩

theorem badDty_c (d : Dty) (w0 : World) :
    CallsV Tryz.prog 102 [.agg #[.int .i64 d.bl, .int .i64 d.bh, .int .i64 d.el, .int .i64 d.eh]] w0 (fun v w' => v = .bool (!okDty d) ∧ Ext w0 w') := by
 refine f_enter (N := 6) func102 rfl rfl rfl (c_seq fun K1 hK1 => (c_region (t_box (cs := [.int .i64 d.bl, .int .i64 d.bh, .int .i64 d.el, .int .i64 d.eh]) rfl rfl rfl rfl (fun bk2 w3 ebk2 sbk2 B4 u5 => ?_))))
 have zu5 := u5.size
 refine t_assign rfl rfl rfl (t_nil' (hK1 _ _ (c_seq fun K7 hK7 => (c_region (t_loadN (vs := [.int .i64 d.bl, .int .i64 d.bh, .int .i64 d.el, .int .i64 d.eh]) isAgg37 sizeOf37 rfl rfl rfl (B4.at.sub 0 4) rfl (t_call own95 rfl rfl rfl rfl (isDuty_c d _) (fun v8 w9 r11 => ?_)))))))
 obtain ⟨rfl, u10⟩ := r11
 have zu10 := u10.size
 refine t_not rfl rfl rfl (t_assign rfl rfl rfl (t_nil' (hK7 _ _ (c_ret (f_ret1 (v := .bool (!(okDty d))) results102 rfl ?_)))))
 exact ⟨rfl, (((Upd.refl (fun _ => False) w0).nx u5).nx u10)⟩

theorem checkDuties_c (l : List Dty) (al : Option Addr) (bl ol cl : Nat) (w0 : World) (hl : Sl encDty 4 w0 al bl ol l) (hll : l.length ≤ 1000000) :
    CallsV Tryz.prog 76 [.slice al l.length cl] w0 (fun v w' => v = .int .i64 (chkD l) ∧ Ext w0 w') := by
 have E0 := Upd.refl (fun _ => False) w0
 refine f_enter (N := 10) func76 rfl rfl rfl (c_seq fun K1 hK1 => (c_region (t_assign rfl rfl rfl (t_nil' (hK1 _ _ (c_seq fun K2 hK2 => (c_block (c_seq fun K3 hK3 => (c_region (t_move rfl rfl rfl (t_len underlying24 rfl rfl rfl rfl (t_cmp rfl rfl rfl rfl rfl (t_assign rfl rfl rfl (t_nil' (hK3 _ _ (c_condp rfl (fun g3 => ?_) (fun g3 => ?_)))))))))))))))))
 ·
  refine c_seq fun K4 hK4 => (c_region (t_assign rfl rfl rfl (t_nil' (hK4 _ _ (c_ret (f_ret1 (v := .int .i64 5) results76 rfl ?_))))))
  exact ⟨congrArg (Value.int .i64) (by unfold chkD; rw [if_pos (by omega)]), E0⟩
 refine c_seq fun K5 hK5 => (c_region (t_move rfl rfl rfl (t_call own101 rfl rfl rfl rfl (containsD_c encDty (fun _ => rfl) (fun x => !okDty x) 102 [] l al bl ol cl _ own102 (fun x _ w _ => badDty_c x w) hl hll) (fun v6 w7 r9 => ?_))))
 obtain ⟨rfl, u8⟩ := r9
 have zu8 := u8.size
 have E10 := E0.nx u8
 refine t_assign rfl rfl rfl (t_nil' (hK5 _ _ (c_cond rfl (fun g7 => ?_) (fun g7 => ?_))))
 ·
  refine c_seq fun K11 hK11 => (c_region (t_assign rfl rfl rfl (t_nil' (hK11 _ _ (c_ret (f_ret1 (v := .int .i64 2) results76 rfl ?_))))))
  exact ⟨congrArg (Value.int .i64) (by unfold chkD; rw [if_neg (by omega), if_pos g7]), E10⟩
 refine c_skip (hK2 _ _ (c_seq fun K12 hK12 => (c_region (t_assign rfl rfl rfl (t_nil' (hK12 _ _ (c_ret (f_ret1 (v := .int .i64 0) results76 rfl ?_))))))))
 exact ⟨congrArg (Value.int .i64) (by unfold chkD; rw [if_neg (by omega), if_neg (by simp [g7])]), E10⟩

theorem check_c (r : Rul) (l : List Dty) (al : Option Addr) (bl ol cl : Nat) (w0 : World) (hl : Sl encDty 4 w0 al bl ol l) (hll : l.length ≤ 1000000) :
    CallsV Tryz.prog 44 [.agg #[.int .i64 r.rest, .int .i64 r.span, .int .i64 r.work, .int .i64 r.week, .int .i64 r.ww], .slice al l.length cl] w0 (fun v w' => v = .int .i64 (chkRD r l) ∧ Ext w0 w') := by
 refine f_enter (N := 13) func44 rfl rfl rfl (c_seq fun K1 hK1 => (c_region (t_box (cs := [.int .i64 r.rest, .int .i64 r.span, .int .i64 r.work, .int .i64 r.week, .int .i64 r.ww]) rfl rfl rfl rfl (fun bk2 w3 ebk2 sbk2 B4 u5 => ?_))))
 have zu5 := u5.size
 refine t_assign rfl rfl rfl (t_nil' (hK1 _ _ (c_seq fun K7 hK7 => (c_seq fun K8 hK8 => (c_region (t_loadN (vs := [.int .i64 r.rest, .int .i64 r.span, .int .i64 r.work, .int .i64 r.week, .int .i64 r.ww]) isAgg23 sizeOf23 rfl rfl rfl (B4.at.sub 0 5) rfl (t_call own10 rfl rfl rfl rfl (Check_c r _) (fun v9 w10 r12 => ?_))))))))
 obtain ⟨rfl, u11⟩ := r12
 have zu11 := u11.size
 have E13 := ((Upd.refl (fun _ => False) w0).nx u5).nx u11
 refine t_assign rfl rfl rfl (t_nil' (hK8 _ _ (c_seq fun K14 hK14 => (c_region (t_move rfl rfl rfl (t_cmp rfl rfl rfl rfl rfl (t_nil' (hK14 _ _ (c_condp rfl (fun g9 => ?_) (fun g9 => ?_))))))))))
 ·
  refine c_seq fun K15 hK15 => (c_region (t_move rfl rfl rfl (t_assign rfl rfl rfl (t_nil' (hK15 _ _ (c_ret (f_ret1 (v := .int .i64 (chkR r)) results44 rfl ?_)))))))
  exact ⟨congrArg (Value.int .i64) (by unfold chkRD; rw [if_pos g9]), E13⟩
 refine c_skip (hK7 _ _ (c_seq fun K16 hK16 => (c_region (t_move rfl rfl rfl (t_call own76 rfl rfl rfl rfl (checkDuties_c l al bl ol cl _ (hl.keep E13 (fun _ h => h)) hll) (fun v17 w18 r20 => ?_))))))
 obtain ⟨rfl, u19⟩ := r20
 have zu19 := u19.size
 refine t_assign rfl rfl rfl (t_nil' (hK16 _ _ (c_ret (f_ret1 (v := .int .i64 (chkD l)) results44 rfl ?_))))
 exact ⟨congrArg (Value.int .i64) (by unfold chkRD; rw [if_neg g9]), (E13.nx u19)⟩

theorem longest_c (d : Dty) (w0 : World) :
    CallsV Tryz.prog 48 [.agg #[.int .i64 d.bl, .int .i64 d.bh, .int .i64 d.el, .int .i64 d.eh]] w0 (fun v w' => v = .agg (encSp (lngS d)).toArray ∧ Ext w0 w') := by
 refine f_enter (N := 10) func48 rfl rfl rfl (c_seq fun K1 hK1 => (c_region (t_box (cs := [.int .i64 d.bl, .int .i64 d.bh, .int .i64 d.el, .int .i64 d.eh]) rfl rfl rfl rfl (fun bk2 w3 ebk2 sbk2 B4 u5 => ?_))))
 have zu5 := u5.size
 refine t_alloc (cs := [.int .i64 0, .int .i64 0]) zeroValue109 rfl rfl rfl (fun bk7 w8 ebk7 sbk7 B9 u10 => ?_)
 have zu10 := u10.size
 refine t_nil' (hK1 _ _ (c_seq fun K12 hK12 => (c_region (t_field underlying37 rfl sizeOf35 (0) rfl rfl rfl rfl (t_field underlying35 rfl sizeOf3 (0) rfl rfl rfl rfl ?_)))))
 have B13 := (B4.kx u10)
 refine t_load isAgg3 rfl rfl rfl (B13.get rfl) (t_field underlying37 rfl sizeOf35 (2) rfl rfl rfl rfl (t_field underlying35 rfl sizeOf3 (3) rfl rfl rfl rfl (t_load isAgg3 rfl rfl rfl (B13.get rfl) (t_build (ps := [(0, .int .i64 d.bl), (1, .int .i64 d.eh)]) (v := .agg #[.int .i64 d.bl, .int .i64 d.eh]) rfl rfl ⟨rfl, rfl⟩ (fun w => by kernel_rfl) (t_st (vs := [.int .i64 d.bl, .int .i64 d.eh]) sizeOf109 rfl rfl rfl B9 rfl rfl rfl rfl (fun w14 sw14 B16 u15 => ?_))))))
 have zu15 := u15.size
 have B16 : Blk w14 bk7 109 [.int .i64 d.bl, .int .i64 d.eh] := B16
 refine t_nil' (hK12 _ _ (c_ret (f_ret1 (v := .agg #[.int .i64 d.bl, .int .i64 d.eh]) results48 ⟨_, _, rfl, run_loadVarN (vs := [.int .i64 d.bl, .int .i64 d.eh]) isAgg109 sizeOf109 rfl (B16.at.sub 0 2)⟩ ?_)))
 exact ⟨rfl, ((((Upd.refl (fun _ => False) w0).nx u5).nx u10).next u15 (fun i hi h => by omega))⟩

theorem shortest_c (d : Dty) (w0 : World) :
    CallsV Tryz.prog 50 [.agg #[.int .i64 d.bl, .int .i64 d.bh, .int .i64 d.el, .int .i64 d.eh]] w0 (fun v w' => v = .agg (encSp (shtS d)).toArray ∧ Ext w0 w') := by
 refine f_enter (N := 10) func50 rfl rfl rfl (c_seq fun K1 hK1 => (c_region (t_box (cs := [.int .i64 d.bl, .int .i64 d.bh, .int .i64 d.el, .int .i64 d.eh]) rfl rfl rfl rfl (fun bk2 w3 ebk2 sbk2 B4 u5 => ?_))))
 have zu5 := u5.size
 refine t_alloc (cs := [.int .i64 0, .int .i64 0]) zeroValue109 rfl rfl rfl (fun bk7 w8 ebk7 sbk7 B9 u10 => ?_)
 have zu10 := u10.size
 refine t_nil' (hK1 _ _ (c_seq fun K12 hK12 => (c_region (t_field underlying37 rfl sizeOf35 (0) rfl rfl rfl rfl (t_field underlying35 rfl sizeOf3 (1) rfl rfl rfl rfl ?_)))))
 have B13 := (B4.kx u10)
 refine t_load isAgg3 rfl rfl rfl (B13.get rfl) (t_field underlying37 rfl sizeOf35 (2) rfl rfl rfl rfl (t_field underlying35 rfl sizeOf3 (2) rfl rfl rfl rfl (t_load isAgg3 rfl rfl rfl (B13.get rfl) (t_build (ps := [(0, .int .i64 d.bh), (1, .int .i64 d.el)]) (v := .agg #[.int .i64 d.bh, .int .i64 d.el]) rfl rfl ⟨rfl, rfl⟩ (fun w => by kernel_rfl) (t_st (vs := [.int .i64 d.bh, .int .i64 d.el]) sizeOf109 rfl rfl rfl B9 rfl rfl rfl rfl (fun w14 sw14 B16 u15 => ?_))))))
 have zu15 := u15.size
 have B16 : Blk w14 bk7 109 [.int .i64 d.bh, .int .i64 d.el] := B16
 refine t_nil' (hK12 _ _ (c_ret (f_ret1 (v := .agg #[.int .i64 d.bh, .int .i64 d.el]) results50 ⟨_, _, rfl, run_loadVarN (vs := [.int .i64 d.bh, .int .i64 d.el]) isAgg109 sizeOf109 rfl (B16.at.sub 0 2)⟩ ?_)))
 exact ⟨rfl, ((((Upd.refl (fun _ => False) w0).nx u5).nx u10).next u15 (fun i hi h => by omega))⟩

theorem work_c (s : Sp) (w0 : World) (hs : OkSp s) :
    CallsV Tryz.prog 79 [.agg #[.int .i64 s.b, .int .i64 s.e]] w0 (fun v w' => v = .int .i64 (s.e - s.b) ∧ Ext w0 w') := by
 unfold OkSp at hs
 refine f_enter (N := 8) func79 rfl rfl rfl (c_seq fun K1 hK1 => (c_region (t_box (cs := [.int .i64 s.b, .int .i64 s.e]) rfl rfl rfl rfl (fun bk2 w3 ebk2 sbk2 B4 u5 => ?_))))
 have zu5 := u5.size
 refine t_assign rfl rfl rfl (t_nil' (hK1 _ _ (c_seq fun K7 hK7 => (c_region (t_field underlying109 rfl sizeOf3 (1) rfl rfl rfl rfl (t_load isAgg3 rfl rfl rfl (B4.get rfl) (t_field underlying109 rfl sizeOf3 (0) rfl rfl rfl rfl (t_load isAgg3 rfl rfl rfl (B4.get rfl) (t_ari rfl rfl rfl rfl rfl (by omega) (t_assign rfl rfl rfl (t_nil' (hK7 _ _ (c_ret (f_ret1 (v := .int .i64 (s.e - s.b)) results79 rfl ?_))))))))))))))
 exact ⟨rfl, ((Upd.refl (fun _ => False) w0).nx u5)⟩

theorem in_c (s : Sp) (a b : Int) (w0 : World) (hs : OkSp s) (ha : -100000 ≤ a ∧ a ≤ 100000) (hb : -100000 ≤ b ∧ b ≤ 100000) :
    CallsV Tryz.prog 85 [.agg #[.int .i64 s.b, .int .i64 s.e], .int .i64 a, .int .i64 b] w0 (fun v w' => v = .int .i64 (inW s a b) ∧ Ext w0 w') := by
 unfold OkSp at hs
 refine f_enter (N := 17) func85 rfl rfl rfl (c_seq fun K1 hK1 => (c_region (t_box (cs := [.int .i64 s.b, .int .i64 s.e]) rfl rfl rfl rfl (fun bk2 w3 ebk2 sbk2 B4 u5 => ?_))))
 have zu5 := u5.size
 refine t_assign rfl rfl rfl (t_nil' (hK1 _ _ (c_seq fun K7 hK7 => (c_region (t_field underlying109 rfl sizeOf3 (1) rfl rfl rfl rfl (t_load isAgg3 rfl rfl rfl (B4.get rfl) (t_move rfl rfl rfl (t_min rfl rfl rfl rfl (t_field underlying109 rfl sizeOf3 (0) rfl rfl rfl rfl (t_load isAgg3 rfl rfl rfl (B4.get rfl) (t_move rfl rfl rfl (t_max rfl rfl rfl rfl (t_ari rfl rfl rfl rfl rfl (by omega) (t_max rfl rfl rfl rfl (t_assign rfl rfl rfl (t_nil' (hK7 _ _ (c_ret (f_ret1 (v := .int .i64 (max 0 ((min s.e b) - (max s.b a)))) results85 rfl ?_)))))))))))))))))))
 exact ⟨rfl, ((Upd.refl (fun _ => False) w0).nx u5)⟩

end Go.Proofs.YtagmodjadmecdaaGreat
namespace Go.Proofs.YtagmodjadmecdaaGreat
open Go Go.RowKit

def Asc {α : Type} [Inhabited α] (cf : α → α → Int) (ys : List α) : Prop := ∀ i j, i < j → j < ys.length → ¬ cf (nth ys j) (nth ys i) < 0

theorem nth_toArray {α : Type} [Inhabited α] (xs : List α) (i : Nat) : (xs.toArray)[i]! = nth xs i := by
  unfold nth
  rw [List.getD_eq_getElem?_getD]
  rcases Nat.lt_or_ge i xs.length with h | h
  · rw [getElem!_pos _ i (by simpa using h)]
    simp [h]
  · rw [getElem!_neg _ i (by simpa using h)]
    simp [List.getElem?_eq_none h]

theorem upd_sorted {α : Type} [Inhabited α] (enc : α → List Value) (k : Nat) (w : World) (g n : Nat) (d : Array α) (os : Array Obj) : Upd (· = g) w (sortWorldK enc k w g 0 n d os) := by
  refine ⟨rfl, rfl, rfl, ?_, fun i hi hn => ?_⟩
  · simp only [sortWorldK, Go.Sort.putRowK, Go.Sort.grow, Go.Sort.putRow, Go.Sort.mapBlock, Go.Sort.ahead]
    simp
  · simp only [sortWorldK, Go.Sort.putRowK, Go.Sort.grow, Go.Sort.putRow, Go.Sort.mapBlock, Go.Sort.ahead]
    rw [Array.getElem?_append_left (by simpa using hi), Array.getElem?_modify]
    simp [show ¬ g = i from fun e => hn e.symm]

theorem acc_sorted {α : Type} [Inhabited α] {enc : α → List Value} {k : Nat} {e : TypeId} {base : Nat} {w : World} {ao : Option Addr} {g cap : Nat} {xs : List α} (hk0 : 0 < k) (hk : ∀ x, (enc x).length = k) (h : Acc enc k e base w ao g cap xs) (hx : 0 < xs.length)
    (d : Array α) (hd : d.size = xs.length) (n : Nat) (os : Array Obj) : Acc enc k e base (sortWorldK enc k w g 0 n d os) ao g cap d.toList := by
  have u := upd_sorted enc k w g n d os
  refine ⟨Nat.lt_of_lt_of_le h.lt u.size, ?_⟩
  rcases h.at_ with ⟨_, h1, _⟩ | ⟨h1, h2, cur, h3, h4, h5, h6, h7⟩
  · subst h1; simp at hx
  · refine .inr ⟨h1, h2, Go.Sort.putCells id 0 (Go.Sort.flatK enc k d) cur, ?_, by simpa [hd] using h4, h5, by simp [Go.Sort.putCells, h6], ?_⟩
    · simp only [sortWorldK, Go.Sort.putRowK, Go.Sort.grow, Go.Sort.putRow, Go.Sort.mapBlock, Go.Sort.ahead]
      rw [Array.getElem?_append_left (by simpa using h.lt), Array.getElem?_modify]
      simp [h3, Go.Sort.onCells]
    · have hcap : xs.length * k ≤ cap * k := Nat.mul_le_mul_right _ h4
      apply List.ext_getElem?
      intro t
      rcases Nat.lt_or_ge t (xs.length * k) with ht | ht
      · have htd : t / k < d.toList.length := by simp [hd]; exact (Nat.div_lt_iff_lt_mul hk0).2 ht
        have hmod : t % k < k := Nat.mod_lt _ hk0
        have hv : (enc (nth d.toList (t / k)))[t % k]? = some ((enc (nth d.toList (t / k)))[t % k]'(by rw [hk]; exact hmod)) := by simp [hk, hmod]
        have h8 := flatMap_at hk d.toList (t / k) (t % k) _ htd hv
        rw [show t / k * k + t % k = t from Nat.div_add_mod' t k] at h8
        rw [h8, List.getElem?_take, if_pos (by simpa [hd] using ht)]
        have htc : t < cur.size := by omega
        rw [Array.getElem?_toList]
        simp only [Go.Sort.putCells]
        rw [Array.getElem?_mapIdx]
        simp only [Array.getElem?_eq_getElem htc, Option.map_some, Nat.zero_le, true_and, Nat.zero_add, Nat.sub_zero, id]
        rw [if_pos (by rw [Go.Sort.size_flatK, hd]; exact ht), Go.Sort.get_flatK _ _ _ t (by rw [hd]; exact ht)]
        have hda : d[t / k]! = nth d.toList (t / k) := by
          have := nth_toArray d.toList (t / k)
          simpa using this
        rw [hda, getElem!_pos _ (t % k) (by rw [hk]; exact hmod)]
      · rw [List.getElem?_eq_none (by simp [hd]; omega), List.getElem?_eq_none (by rw [flatMap_len hk]; simp [hd]; omega)]

theorem holdsK_acc {α : Type} [Inhabited α] {enc : α → List Value} {k : Nat} {e : TypeId} {base : Nat} {w : World} {ao : Option Addr} {g cap : Nat} {xs : List α} (hk0 : 0 < k) (hk : ∀ x, (enc x).length = k) (h : Acc enc k e base w ao g cap xs) (hx : 0 < xs.length) : Go.Sort.HoldsK enc k w g 0 xs.toArray := by
  intro t ht
  rw [Go.Sort.size_flatK] at ht
  have ht' : t < xs.length * k := by simpa using ht
  rw [Go.Sort.get_flatK _ _ _ t ht, nth_toArray]
  have hmod : t % k < k := Nat.mod_lt _ hk0
  have htd : t / k < xs.length := (Nat.div_lt_iff_lt_mul hk0).2 ht'
  have h8 := (h.sl hk).at_ (t / k) htd (t % k) ((enc (nth xs (t / k)))[t % k]'(by rw [hk]; exact hmod)) (by simp [hk, hmod])
  rw [Nat.zero_add, Nat.div_add_mod'] at h8
  refine ⟨by rw [Nat.zero_add, h8, getElem!_pos _ (t % k) (by rw [hk]; exact hmod)]; rfl, ?_⟩
  rcases h.at_ with ⟨_, h1, _⟩ | ⟨_, _, cur, h3, _⟩
  · subst h1; simp at hx
  · simp [World.frozen?, h3]

def CmpOk {α : Type} (P : Program) (g : Nat) (enc : α → List Value) (cf : α → α → Int) : Prop :=
  ∀ (x y : α) (W : World), Calls P g #[.agg (enc x).toArray, .agg (enc y).toArray] W fun e w' => e = .returned (.int .i64 (cf x y)) ∧ ∃ q os', w' = Go.Sort.grow (W.drewN q) os'

end Go.Proofs.YtagmodjadmecdaaGreat
namespace Go.Proofs.YtagmodjadmecdaaGreat
open Go Go.RowKit

theorem Gr.grow {w w' : World} (h : Gr w w') : ∃ q os', w' = Go.Sort.grow (w.drewN q) os' := by
  obtain ⟨h1, h2, h3, h4, os, h5⟩ := h
  refine ⟨w'.drawn - w.drawn, os, ?_⟩
  cases w; cases w'
  simp only [Go.Sort.grow, World.drewN] at *
  simp_all
theorem len_c {P : Program} {ρ : Go.Shelf.Ren} (L : SlLaysF0.n14 P ρ) (n : Nat) (hn : n ≤ 1000000) (w : World) : CallsV P (ρ.f 15) [.int .u64 (n : Int)] w fun v w' => ∃ k : Nat, v = .int .i64 (k : Int) ∧ k < 4611686018427387904 ∧ Ext w w' := by
  have h := Any.bits_Len (SlLaysF0.n15.bits (P := P) (ρ := ρ) { L with }) (n : Int) w (by omega) (by omega)
  rw [Int.toNat_natCast] at h
  refine Calls.mono h ?_
  rintro e w' ⟨rfl, rfl⟩
  exact ⟨_, rfl, Lib.bitLen n, rfl, Nat.lt_of_le_of_lt (Lib.bitLen_le n 62 (by omega) (by omega)) (by omega), Upd.refl _ _⟩
theorem pdq_c {α : Type} [Inhabited α] {P : Program} {ρ : Go.Shelf.Ren} (L : SlLaysF0.n14 P ρ) (k : Nat) (hk0 : 0 < k) (aE : ∀ w, (isAgg (ρ.t 24)).run P w = .ok true w) (zE : ∀ w, (sizeOf (ρ.t 24)).run P w = .ok k w) (enc : α → List Value) (hk : ∀ x, (enc x).length = k) (h1 : ∀ x, ∀ v ∈ enc x, v.oneCell' = true)
    (cf : α → α → Int) (hO : Go.Sort.SWO (ltOf cf)) (g : Nat) (eg : Own P g) (hcmp : CmpOk P g enc cf) (e : TypeId) (base : Nat) (ao : Option Addr) (gb cap : Nat) (xs : List α) (lim : Nat) (hlim : lim < 4611686018427387904) (w : World) (ha : Acc enc k e base w ao gb cap xs) (hlen : xs.length ≤ 1000000) :
    CallsV P (ρ.f 14) [.slice ao xs.length cap, .int .i64 0, .int .i64 (xs.length : Int), .int .i64 (lim : Int), .func (.func g) #[] #[]] w fun v w' => ∃ ys, List.Perm ys xs ∧ Asc cf ys ∧ Acc enc k e base w' ao gb cap ys ∧ Upd (fun i => i = gb ∧ base ≤ i) w w' ∧ v = .tuple #[] := by
  rcases Nat.eq_zero_or_pos xs.length with h0 | h0
  · have : xs = [] := List.eq_nil_of_length_eq_zero h0
    subst this
    refine Calls.mono (AnyF.pdqsortCmpFunc_none L ao cap lim _ w) ?_
    rintro e w' ⟨rfl, rfl⟩
    exact ⟨_, rfl, [], List.Perm.refl _, fun i j _ h => by simp at h, ha, Upd.refl _ _, rfl⟩
  · have hao := (ha.sl hk).addr h0
    have hb : base ≤ gb := by
      rcases ha.at_ with ⟨_, h2, _⟩ | ⟨_, h2, _⟩
      · subst h2; simp at h0
      · exact h2
    have hsz : xs.toArray.size = xs.length := by simp
    have hH := holdsK_acc hk0 hk ha h0
    have hc := AnyQ.pdqsortCmpFunc_all L k aE zE enc cf g #[] hO gb 0 cap xs.toArray w (fun args w => eg.run args w) (fun m os dk _ x y => hcmp x y _) ⟨hk, h1, hH, ha.lt⟩ (xs.length + 1) 0 xs.length lim xs.toArray w (by omega) rfl (SWK.start hH) (Nat.zero_le _) (by rw [hsz]; exact Nat.le_refl _) (by rw [hsz]; omega) hlim (Or.inl rfl)
    rw [hsz] at hc
    subst hao
    refine Calls.mono hc ?_
    rintro e w' ⟨rfl, n, os, rfl⟩
    have hps := Go.Sort.pdq_sorts (ltOf cf) hO xs.toArray 0 xs.length lim true true (Nat.zero_le _) (by rw [hsz]; exact Nat.le_refl _) (Or.inl rfl)
    have hp := hps.1
    have hs := hps.2
    generalize Go.Sort.pdq (ltOf cf) xs.toArray 0 xs.length lim true true = d' at hp hs ⊢
    have hds : d'.size = xs.length := by rw [hp.1]; simp
    have hdl : d'.toList.length = xs.length := by simpa using hds
    have hacc := acc_sorted hk0 hk ha h0 d' hds n os
    refine ⟨_, rfl, d'.toList, ?_, ?_, hacc, (upd_sorted enc k w gb n d' os).mono (fun i hi => ⟨hi, by omega⟩), rfl⟩
    · have h3 := hp.2.2
      rw [show d'.extract 0 xs.length = d' from by rw [← hds]; exact Array.extract_size, show xs.toArray.extract 0 xs.length = xs.toArray from by rw [← hsz]; exact Array.extract_size] at h3
      simpa using h3
    · intro i j hij hj
      have h4 := hs i j (Nat.zero_le _) hij (by omega)
      have hn : ∀ i, d'[i]! = nth d'.toList i := fun i => by have := nth_toArray d'.toList i; simpa using this
      rw [hn, hn] at h4
      unfold ltOf at h4
      simpa using h4
end Go.Proofs.YtagmodjadmecdaaGreat
namespace Go.Proofs
open Go.Shelf
def YtagmodjadmecdaaGreat.sortQ_ren : Go.Shelf.Ren := ⟨fun | 14 => 103 | 20 => 115 | 21 => 116 | 22 => 117 | 23 => 118 | 24 => 119 | 25 => 120 | 26 => 121 | 27 => 122 | 46 => 127 | 47 => 128 | 48 => 129 | 49 => 130 | 50 => 131 | 15 => 104 | 57 => 133 | 28 => 123 | 29 => 124 | n => n, fun | 24 => 109 | 22 => 102 | 3 => 3 | 25 => 153 | 4 => 4 | 0 => 0 | 46 => 191 | 45 => 190 | 50 => 155 | 66 => 200 | 39 => 179 | 55 => 199 | 70 => 204 | 76 => 207 | 77 => 45 | 53 => 197 | 5 => 5 | 9 => 9 | n => n, fun | n => n⟩
theorem YtagmodjadmecdaaGreat.sortQ : Go.Proofs.SlLaysF0.n14 Tryz.prog YtagmodjadmecdaaGreat.sortQ_ren := {
  mixed := by kernel_rfl
  f14 := ⟨Tryz.f103.name, by decide, Tryz.func103.trans (congrArg some (by kernel_rfl))⟩
  f15 := Tryz.func104.trans (congrArg some (by kernel_rfl))
  f20 := ⟨Tryz.f115.name, by decide, Tryz.func115.trans (congrArg some (by kernel_rfl))⟩
  f21 := ⟨Tryz.f116.name, by decide, Tryz.func116.trans (congrArg some (by kernel_rfl))⟩
  f22 := ⟨Tryz.f117.name, by decide, Tryz.func117.trans (congrArg some (by kernel_rfl))⟩
  f23 := ⟨Tryz.f118.name, by decide, Tryz.func118.trans (congrArg some (by kernel_rfl))⟩
  f24 := ⟨Tryz.f119.name, by decide, Tryz.func119.trans (congrArg some (by kernel_rfl))⟩
  f25 := ⟨Tryz.f120.name, by decide, Tryz.func120.trans (congrArg some (by kernel_rfl))⟩
  f26 := ⟨Tryz.f121.name, by decide, Tryz.func121.trans (congrArg some (by kernel_rfl))⟩
  f27 := ⟨Tryz.f122.name, by decide, Tryz.func122.trans (congrArg some (by kernel_rfl))⟩
  f28 := Tryz.func123.trans (congrArg some (by kernel_rfl))
  f29 := Tryz.func124.trans (congrArg some (by kernel_rfl))
  f46 := ⟨Tryz.f127.name, by decide, Tryz.func127.trans (congrArg some (by kernel_rfl))⟩
  f47 := Tryz.func128.trans (congrArg some (by kernel_rfl))
  f48 := Tryz.func129.trans (congrArg some (by kernel_rfl))
  f49 := ⟨Tryz.f130.name, by decide, Tryz.func130.trans (congrArg some (by kernel_rfl))⟩
  f50 := ⟨Tryz.f131.name, by decide, Tryz.func131.trans (congrArg some (by kernel_rfl))⟩
  f57 := ⟨Tryz.f133.name, by decide, Tryz.func133.trans (congrArg some (by kernel_rfl))⟩
  t0 := Tryz.underlying0
  a0 := Tryz.isAgg0
  z0 := Tryz.sizeOf0
  v0 := Tryz.zeroValue0
  t3 := Tryz.underlying3
  a3 := Tryz.isAgg3
  z3 := Tryz.sizeOf3
  v3 := Tryz.zeroValue3
  t4 := Tryz.underlying4
  a4 := Tryz.isAgg4
  z4 := Tryz.sizeOf4
  v4 := Tryz.zeroValue4
  t5 := Tryz.underlying5
  a5 := Tryz.isAgg5
  z5 := Tryz.sizeOf5
  v5 := Tryz.zeroValue5
  t9 := Tryz.underlying9
  a9 := Tryz.isAgg9
  z9 := Tryz.sizeOf9
  v9 := Tryz.zeroValue9
  t22 := Tryz.underlying102
  a22 := Tryz.isAgg102
  z22 := Tryz.sizeOf102
  v22 := Tryz.zeroValue102
  t25 := Tryz.underlying153
  a25 := Tryz.isAgg153
  z25 := Tryz.sizeOf153
  v25 := Tryz.zeroValue153
  t39 := Tryz.underlying179
  a39 := Tryz.isAgg179
  z39 := Tryz.sizeOf179
  v39 := Tryz.zeroValue179
  t45 := Tryz.underlying190
  a45 := Tryz.isAgg190
  z45 := Tryz.sizeOf190
  v45 := Tryz.zeroValue190
  t46 := Tryz.underlying191
  a46 := Tryz.isAgg191
  z46 := Tryz.sizeOf191
  v46 := Tryz.zeroValue191
  t50 := Tryz.underlying155
  a50 := Tryz.isAgg155
  z50 := Tryz.sizeOf155
  v50 := Tryz.zeroValue155
  t53 := Tryz.underlying197
  a53 := Tryz.isAgg197
  z53 := Tryz.sizeOf197
  v53 := Tryz.zeroValue197
  t55 := Tryz.underlying199
  a55 := Tryz.isAgg199
  z55 := Tryz.sizeOf199
  v55 := Tryz.zeroValue199
  t66 := Tryz.underlying200
  a66 := Tryz.isAgg200
  z66 := Tryz.sizeOf200
  v66 := Tryz.zeroValue200
  t70 := Tryz.underlying204
  a70 := Tryz.isAgg204
  z70 := Tryz.sizeOf204
  v70 := Tryz.zeroValue204
  t76 := Tryz.underlying207
  a76 := Tryz.isAgg207
  z76 := Tryz.sizeOf207
  v76 := Tryz.zeroValue207
  t77 := Tryz.underlying45
  a77 := Tryz.isAgg45
  z77 := Tryz.sizeOf45
  v77 := Tryz.zeroValue45 }
end Go.Proofs
namespace Go.Proofs.YtagmodjadmecdaaGreat
open Go Go.RowKit Tryz

theorem cmpS_lt (x y : Sp) : ltOf cmpS x y = decide (LtS x y) := by
  unfold ltOf
  exact decide_eq_decide.2 cmp_neg
theorem cmpS_swo : Go.Sort.SWO (ltOf cmpS) where
  irrefl x := by rw [cmpS_lt]; simp [LtS]
  trans x y z h1 h2 := by rw [cmpS_lt, decide_eq_true_eq] at h1 h2 ⊢; unfold LtS at *; omega
  ntrans x y z h1 h2 := by rw [cmpS_lt, decide_eq_false_iff_not] at h1 h2 ⊢; unfold LtS at *; omega
theorem asc_srt {l : List Sp} (h : Asc cmpS l) : Srt l := by
  unfold Srt
  rw [List.pairwise_iff_getElem]
  intro i j hi hj hij
  have := h i j hij hj
  rw [cmp_neg, nth_eq hi, nth_eq hj] at this
  exact this
theorem own80 : Own Tryz.prog 80 := ⟨Tryz.f80, func80, by kernel_rfl, by kernel_rfl⟩
theorem own103 : Own Tryz.prog 103 := ⟨Tryz.f103, func103, by kernel_rfl, by kernel_rfl⟩
theorem own104 : Own Tryz.prog 104 := ⟨Tryz.f104, func104, by kernel_rfl, by kernel_rfl⟩
theorem own47 : Own Tryz.prog 47 := ⟨Tryz.f47, func47, by kernel_rfl, by kernel_rfl⟩

theorem compare_ok : CmpOk Tryz.prog 81 encSp cmpS := fun x y W => by
  refine Calls.mono (compare_c x y W) ?_
  rintro e w' ⟨v, rfl, ⟨rfl, hg⟩, _⟩
  exact ⟨rfl, hg.grow⟩

theorem sortR_c (xs : List Sp) (ao : Option Addr) (gb cp base : Nat) (w0 : World) (ha : Acc encSp 2 109 base w0 ao gb cp xs) (hl : xs.length ≤ 100000) :
    CallsV Tryz.prog 80 [.slice ao xs.length cp, .func (.func 81) #[] #[]] w0 (fun v w' => v = .tuple #[] ∧ Acc encSp 2 109 base w' ao gb cp (srtS xs) ∧ Upd (fun i => i = gb ∧ base ≤ i) w0 w') := by
 have hgl := ha.lt
 refine f_enter (N := 14) func80 rfl rfl rfl (c_seq fun K1 hK1 => (c_region (t_move rfl rfl rfl (t_len underlying103 rfl rfl rfl rfl (t_assign rfl rfl rfl (t_nil' (hK1 _ _ (c_region (t_move rfl rfl rfl (t_move rfl rfl rfl (t_move rfl rfl rfl (t_conv underlying3 underlying179 rfl rfl rfl (IntWalk.u64_in _ (by omega)) (t_call own104 rfl rfl rfl rfl (len_c (ρ := YtagmodjadmecdaaGreat.sortQ_ren) YtagmodjadmecdaaGreat.sortQ xs.length (by omega) _) (fun v2 w3 r5 => ?_))))))))))))))
 obtain ⟨kL, rfl, hkL, u4⟩ := r5
 have zu4 := u4.size
 refine t_move rfl rfl rfl ?_
 have D7 := (ha.kE u4)
 refine t_call own103 rfl rfl rfl rfl (pdq_c (ρ := YtagmodjadmecdaaGreat.sortQ_ren) YtagmodjadmecdaaGreat.sortQ 2 (by decide) isAgg109 sizeOf109 encSp (fun _ => rfl) (by intro x; simp [encSp, Value.oneCell']) cmpS cmpS_swo 81 own81 compare_ok 109 base ao gb cp xs kL hkL _ D7 (by omega)) (fun v8 w9 r11 => ?_)
 obtain ⟨ys, hperm, hasc, hacY, u10, rfl⟩ := r11
 have zu10 := u10.size
 have lt_gb := hacY.lt
 refine t_nil' (f_ret0 results80 ?_)
 exact ⟨rfl, by rw [← srt_eq (asc_srt hasc) hperm]; exact hacY, (((Upd.refl (fun i => (i = gb ∧ base ≤ i)) w0).nx u4).next u10 (fun i hi h => by omega))⟩

theorem rosterL_c (l : List Dty) (al : Option Addr) (bl ol cl : Nat) (w0 : World) (hl : Sl encDty 4 w0 al bl ol l) (hll : l.length ≤ 100000) (hpos : 0 < w0.heap.size) :
    CallsV Tryz.prog 47 [.func (.func 48) #[] #[], .slice al l.length cl] w0 (fun v w' => (∃ ao g cp, v = .slice ao (List.length (srtS (l.map lngS))) cp ∧ Acc encSp 2 109 w0.heap.size w' ao g cp (srtS (l.map lngS))) ∧ Ext w0 w') := by
 refine f_enter (N := 23) func47 rfl rfl rfl (c_seq fun K1 hK1 => (c_region (t_assign rfl rfl rfl (t_nil' (hK1 _ _ (c_seq fun K2 hK2 => (c_seq fun K3 hK3 => (c_region (t_move rfl rfl rfl (t_len underlying24 rfl rfl rfl rfl (t_move rfl rfl rfl (t_nil' (hK3 _ _ (c_block (c_loop (γ := Nat × Option Addr × Nat × Nat × List Sp) (fun gg => [(0, .func (.func 48) #[] #[]), (4, .slice gg.2.1 gg.2.2.2.2.length gg.2.2.2.1), (7, .slice al l.length cl), (8, .int .i64 (l.length : Int)), (9, .int .i64 (gg.1 : Int))]) (fun gg w => Upd (fun _ => False) w0 w ∧ (gg.1 ≤ l.length) ∧ (Acc encSp 2 109 w0.heap.size w gg.2.1 gg.2.2.1 gg.2.2.2.1 gg.2.2.2.2) ∧ (gg.2.2.2.2 = (l.take gg.1).map lngS)) (fun gg => l.length - gg.1) (0, none, 0, 0, []) ⟨rfl, rfl, rfl, rfl, rfl, trivial⟩ ⟨Upd.refl _ _, (Nat.zero_le _), (Acc.nil _ _ _ _ _ hpos (by omega)), rfl⟩ ?_)))))))))))))))
 intro gg w5 hW K4 hK4
 obtain ⟨k, ar, gr, cr, rs⟩ := gg
 change WC _ _ _ _ _ _ [(0, .func (.func 48) #[] #[]), (4, .slice ar rs.length cr), (7, .slice al l.length cl), (8, .int .i64 (l.length : Int)), (9, .int .i64 (k : Int))] _
 change Upd (fun _ => False) w0 w5 ∧ (k ≤ l.length) ∧ (Acc encSp 2 109 w0.heap.size w5 ar gr cr rs) ∧ (rs = (l.take k).map lngS) at hW
 obtain ⟨u6, I7, I8, I9⟩ := hW
 have zu6 := u6.size
 have E10 := (Upd.refl (fun _ => False) w0).nx u6
 have hk := I7; clear I7
 have hrA := I8; clear I8
 have hrs := I9; clear I9
 have lt_gr := hrA.lt
 have hrl : rs.length = k := by rw [hrs, List.length_map, List.length_take]; omega
 refine c_seq fun K11 hK11 => (c_region (t_cmp rfl rfl rfl rfl rfl (t_nil' (hK11 _ _ (c_seq fun K12 hK12 => (c_condp rfl (fun g10 => ?_) (fun g10 => ?_)))))))
 ·
  refine c_skip (hK12 _ _ (c_seq fun K13 hK13 => (c_block (c_seq fun K14 hK14 => (c_region ?_)))))
  have i15 : k < l.length := (by omega)
  refine t_index (j := k) underlying24 sizeOf37 rfl rfl rfl rfl ((hl.keep E10 (fun _ h => h)).addr (by omega)) rfl i15 (t_loadN (vs := [.int .i64 ((nth l k).bl), .int .i64 ((nth l k).bh), .int .i64 ((nth l k).el), .int .i64 ((nth l k).eh)]) isAgg37 sizeOf37 rfl rfl rfl (((hl.keep E10 (fun _ h => h)).at_ k (by omega)).sub 0 4) rfl (t_alloc (cs := [.int .i64 0, .int .i64 0, .int .i64 0, .int .i64 0]) zeroValue37 rfl rfl rfl (fun bk16 w17 ebk16 sbk16 B18 u19 => ?_)))
  have zu19 := u19.size
  refine t_st (vs := [.int .i64 ((nth l k).bl), .int .i64 ((nth l k).bh), .int .i64 ((nth l k).el), .int .i64 ((nth l k).eh)]) sizeOf37 rfl rfl rfl B18 rfl rfl rfl rfl (fun w21 sw21 B23 u22 => ?_)
  have zu22 := u22.size
  have B23 : Blk w21 bk16 37 [.int .i64 ((nth l k).bl), .int .i64 ((nth l k).bh), .int .i64 ((nth l k).el), .int .i64 ((nth l k).eh)] := B23
  refine t_nil' (hK14 _ _ (c_region (t_move rfl rfl rfl (t_move rfl rfl rfl (t_loadN (vs := [.int .i64 ((nth l k).bl), .int .i64 ((nth l k).bh), .int .i64 ((nth l k).el), .int .i64 ((nth l k).eh)]) isAgg37 sizeOf37 rfl rfl rfl (B23.at.sub 0 4) rfl (t_call own48 rfl rfl rfl rfl (longest_c (nth l k) _) (fun v25 w26 r28 => ?_)))))))
  obtain ⟨rfl, u27⟩ := r28
  have zu27 := u27.size
  refine t_bslice (ps := [(0, .agg #[.int .i64 ((lngS (nth l k)).b), .int .i64 ((lngS (nth l k)).e)])]) (cs := [.int .i64 ((lngS (nth l k)).b), .int .i64 ((lngS (nth l k)).e)]) (e := 109) rfl rfl ⟨rfl, rfl⟩ (fun w => by kernel_rfl) (fun bk30 w31 ebk30 sbk30 B32 u33 => ?_)
  have zu33 := u33.size
  have D35 := ((((hrA.kE u19).keep u22 (fun hb => show ¬ (gr = bk16) by first | omega | assumption)).kE u27).kE u33)
  refine t_append (z := .agg #[.int .i64 0, .int .i64 0]) (bytes := 16) (k := 2) (base := w0.heap.size) (lngS (nth l k)) underlying103 (by kernel_rfl) rfl (by decide) (fun _ => rfl) (by intro x; simp [encSp, Value.oneCell']) rfl rfl rfl rfl D35 B32 (by omega) (by omega) (by decide) (fun ao36 gb37 cp38 w39 A40 u41 gegb37 lngb37 => ?_)
  have zu41 := u41.size
  have lt_gb37 := A40.lt
  refine t_assign rfl rfl rfl (t_nil' (hK13 _ _ (c_region (t_ari rfl rfl rfl rfl rfl (by omega) (t_move rfl rfl rfl (t_nil' ?_))))))
  exact hK4 (k + 1, ao36, gb37, cp38, (rs ++ [(lngS (nth l k))])) _ _ (by show l.length - (k + 1) < l.length - k; omega) ⟨rfl, rfl, rfl, rfl, rfl, trivial⟩ ⟨(((((u6.nx u19).next u22 (fun i hi h => by omega)).nx u27).nx u33).next u41 (fun i hi h => by omega)), (by omega), A40, (by rw [hrs, take_nth (by omega), List.map_append]; rfl)⟩
 refine c_exit (hK2 _ _ (c_seq fun K43 hK43 => (c_region (t_move rfl rfl rfl (t_call own80 rfl rfl rfl rfl (sortR_c rs ar gr cr w0.heap.size _ hrA (by omega)) (fun v44 w45 r47 => ?_))))))
 obtain ⟨rfl, hacS, u46⟩ := r47
 have zu46 := u46.size
 have hfin : srtS rs = srtS (l.map lngS) := by rw [hrs, show k = l.length by omega, List.take_length]
 have lt_gr := hacS.lt
 refine t_nil' (hK43 _ _ (c_seq fun K49 hK49 => (c_region (t_move rfl rfl rfl (t_assign rfl rfl rfl (t_nil' (hK49 _ _ (c_ret (f_ret1 (v := .slice ar rs.length cr) results47 rfl ?_)))))))))
 exact ⟨⟨ar, gr, cr, by rw [← hfin, srt_len], by rw [← hfin]; exact hacS⟩, (E10.next u46 (fun i hi h => by omega))⟩

theorem rosterS_c (l : List Dty) (al : Option Addr) (bl ol cl : Nat) (w0 : World) (hl : Sl encDty 4 w0 al bl ol l) (hll : l.length ≤ 100000) (hpos : 0 < w0.heap.size) :
    CallsV Tryz.prog 47 [.func (.func 50) #[] #[], .slice al l.length cl] w0 (fun v w' => (∃ ao g cp, v = .slice ao (List.length (srtS (l.map shtS))) cp ∧ Acc encSp 2 109 w0.heap.size w' ao g cp (srtS (l.map shtS))) ∧ Ext w0 w') := by
 refine f_enter (N := 23) func47 rfl rfl rfl (c_seq fun K1 hK1 => (c_region (t_assign rfl rfl rfl (t_nil' (hK1 _ _ (c_seq fun K2 hK2 => (c_seq fun K3 hK3 => (c_region (t_move rfl rfl rfl (t_len underlying24 rfl rfl rfl rfl (t_move rfl rfl rfl (t_nil' (hK3 _ _ (c_block (c_loop (γ := Nat × Option Addr × Nat × Nat × List Sp) (fun gg => [(0, .func (.func 50) #[] #[]), (4, .slice gg.2.1 gg.2.2.2.2.length gg.2.2.2.1), (7, .slice al l.length cl), (8, .int .i64 (l.length : Int)), (9, .int .i64 (gg.1 : Int))]) (fun gg w => Upd (fun _ => False) w0 w ∧ (gg.1 ≤ l.length) ∧ (Acc encSp 2 109 w0.heap.size w gg.2.1 gg.2.2.1 gg.2.2.2.1 gg.2.2.2.2) ∧ (gg.2.2.2.2 = (l.take gg.1).map shtS)) (fun gg => l.length - gg.1) (0, none, 0, 0, []) ⟨rfl, rfl, rfl, rfl, rfl, trivial⟩ ⟨Upd.refl _ _, (Nat.zero_le _), (Acc.nil _ _ _ _ _ hpos (by omega)), rfl⟩ ?_)))))))))))))))
 intro gg w5 hW K4 hK4
 obtain ⟨k, ar, gr, cr, rs⟩ := gg
 change WC _ _ _ _ _ _ [(0, .func (.func 50) #[] #[]), (4, .slice ar rs.length cr), (7, .slice al l.length cl), (8, .int .i64 (l.length : Int)), (9, .int .i64 (k : Int))] _
 change Upd (fun _ => False) w0 w5 ∧ (k ≤ l.length) ∧ (Acc encSp 2 109 w0.heap.size w5 ar gr cr rs) ∧ (rs = (l.take k).map shtS) at hW
 obtain ⟨u6, I7, I8, I9⟩ := hW
 have zu6 := u6.size
 have E10 := (Upd.refl (fun _ => False) w0).nx u6
 have hk := I7; clear I7
 have hrA := I8; clear I8
 have hrs := I9; clear I9
 have lt_gr := hrA.lt
 have hrl : rs.length = k := by rw [hrs, List.length_map, List.length_take]; omega
 refine c_seq fun K11 hK11 => (c_region (t_cmp rfl rfl rfl rfl rfl (t_nil' (hK11 _ _ (c_seq fun K12 hK12 => (c_condp rfl (fun g10 => ?_) (fun g10 => ?_)))))))
 ·
  refine c_skip (hK12 _ _ (c_seq fun K13 hK13 => (c_block (c_seq fun K14 hK14 => (c_region ?_)))))
  have i15 : k < l.length := (by omega)
  refine t_index (j := k) underlying24 sizeOf37 rfl rfl rfl rfl ((hl.keep E10 (fun _ h => h)).addr (by omega)) rfl i15 (t_loadN (vs := [.int .i64 ((nth l k).bl), .int .i64 ((nth l k).bh), .int .i64 ((nth l k).el), .int .i64 ((nth l k).eh)]) isAgg37 sizeOf37 rfl rfl rfl (((hl.keep E10 (fun _ h => h)).at_ k (by omega)).sub 0 4) rfl (t_alloc (cs := [.int .i64 0, .int .i64 0, .int .i64 0, .int .i64 0]) zeroValue37 rfl rfl rfl (fun bk16 w17 ebk16 sbk16 B18 u19 => ?_)))
  have zu19 := u19.size
  refine t_st (vs := [.int .i64 ((nth l k).bl), .int .i64 ((nth l k).bh), .int .i64 ((nth l k).el), .int .i64 ((nth l k).eh)]) sizeOf37 rfl rfl rfl B18 rfl rfl rfl rfl (fun w21 sw21 B23 u22 => ?_)
  have zu22 := u22.size
  have B23 : Blk w21 bk16 37 [.int .i64 ((nth l k).bl), .int .i64 ((nth l k).bh), .int .i64 ((nth l k).el), .int .i64 ((nth l k).eh)] := B23
  refine t_nil' (hK14 _ _ (c_region (t_move rfl rfl rfl (t_move rfl rfl rfl (t_loadN (vs := [.int .i64 ((nth l k).bl), .int .i64 ((nth l k).bh), .int .i64 ((nth l k).el), .int .i64 ((nth l k).eh)]) isAgg37 sizeOf37 rfl rfl rfl (B23.at.sub 0 4) rfl (t_call own50 rfl rfl rfl rfl (shortest_c (nth l k) _) (fun v25 w26 r28 => ?_)))))))
  obtain ⟨rfl, u27⟩ := r28
  have zu27 := u27.size
  refine t_bslice (ps := [(0, .agg #[.int .i64 ((shtS (nth l k)).b), .int .i64 ((shtS (nth l k)).e)])]) (cs := [.int .i64 ((shtS (nth l k)).b), .int .i64 ((shtS (nth l k)).e)]) (e := 109) rfl rfl ⟨rfl, rfl⟩ (fun w => by kernel_rfl) (fun bk30 w31 ebk30 sbk30 B32 u33 => ?_)
  have zu33 := u33.size
  have D35 := ((((hrA.kE u19).keep u22 (fun hb => show ¬ (gr = bk16) by first | omega | assumption)).kE u27).kE u33)
  refine t_append (z := .agg #[.int .i64 0, .int .i64 0]) (bytes := 16) (k := 2) (base := w0.heap.size) (shtS (nth l k)) underlying103 (by kernel_rfl) rfl (by decide) (fun _ => rfl) (by intro x; simp [encSp, Value.oneCell']) rfl rfl rfl rfl D35 B32 (by omega) (by omega) (by decide) (fun ao36 gb37 cp38 w39 A40 u41 gegb37 lngb37 => ?_)
  have zu41 := u41.size
  have lt_gb37 := A40.lt
  refine t_assign rfl rfl rfl (t_nil' (hK13 _ _ (c_region (t_ari rfl rfl rfl rfl rfl (by omega) (t_move rfl rfl rfl (t_nil' ?_))))))
  exact hK4 (k + 1, ao36, gb37, cp38, (rs ++ [(shtS (nth l k))])) _ _ (by show l.length - (k + 1) < l.length - k; omega) ⟨rfl, rfl, rfl, rfl, rfl, trivial⟩ ⟨(((((u6.nx u19).next u22 (fun i hi h => by omega)).nx u27).nx u33).next u41 (fun i hi h => by omega)), (by omega), A40, (by rw [hrs, take_nth (by omega), List.map_append]; rfl)⟩
 refine c_exit (hK2 _ _ (c_seq fun K43 hK43 => (c_region (t_move rfl rfl rfl (t_call own80 rfl rfl rfl rfl (sortR_c rs ar gr cr w0.heap.size _ hrA (by omega)) (fun v44 w45 r47 => ?_))))))
 obtain ⟨rfl, hacS, u46⟩ := r47
 have zu46 := u46.size
 have hfin : srtS rs = srtS (l.map shtS) := by rw [hrs, show k = l.length by omega, List.take_length]
 have lt_gr := hacS.lt
 refine t_nil' (hK43 _ _ (c_seq fun K49 hK49 => (c_region (t_move rfl rfl rfl (t_assign rfl rfl rfl (t_nil' (hK49 _ _ (c_ret (f_ret1 (v := .slice ar rs.length cr) results47 rfl ?_)))))))))
 exact ⟨⟨ar, gr, cr, by rw [← hfin, srt_len], by rw [← hfin]; exact hacS⟩, (E10.next u46 (fun i hi h => by omega))⟩

end Go.Proofs.YtagmodjadmecdaaGreat
