/-
  Part 5 of the proof: contracts and plain laws. Conditions: none.
-/
import Derived.Shelf.SlSortCmp.WholeK
import Derived.Shelf.SlSortCmp.NoneTotal
import Derived.Ground.SlsfProg
import Derived.Test.YtbcedieodibehaaGreatProg
import Derived.Test.YtbcedieodibehaaGreatAK4
namespace Go.Proofs.YtbcedieodibehaaGreat
open Go Go.RowKit Go.Proofs.Tryz
set_option maxRecDepth 10000

/-- A time of work. -/
structure Sp where
  b : Int
  e : Int
instance : Inhabited Sp := ⟨⟨default, default⟩⟩
/-- A duty: the bounds of its begin, and of its end. -/
structure Dty where
  bl : Int
  bh : Int
  el : Int
  eh : Int
instance : Inhabited Dty := ⟨⟨default, default, default, default⟩⟩
structure Rul where
  rest : Int
  span : Int
  work : Int
  week : Int
  ww : Int
instance : Inhabited Rul := ⟨⟨default, default, default, default, default⟩⟩
structure Shf where
  b : Int
  e : Int
  w : Int
instance : Inhabited Shf := ⟨⟨default, default, default⟩⟩
def encSp (x : Sp) : List Value := [.int .i64 x.b, .int .i64 x.e]
def encDty (x : Dty) : List Value := [.int .i64 x.bl, .int .i64 x.bh, .int .i64 x.el, .int .i64 x.eh]
def encShf (x : Shf) : List Value := [.int .i64 x.b, .int .i64 x.e, .int .i64 x.w]
def okRul (r : Rul) : Bool := decide ((1 ≤ r.rest ∧ r.rest ≤ 20160) ∧ (1 ≤ r.span ∧ r.span ≤ 20160) ∧ (1 ≤ r.work ∧ r.work ≤ 20160) ∧ (1 ≤ r.week ∧ r.week ≤ 20160) ∧ (1 ≤ r.ww ∧ r.ww ≤ 20160))
def okDty (d : Dty) : Bool := decide (((0 ≤ d.bl ∧ d.bl ≤ 20160) ∧ (0 ≤ d.bh ∧ d.bh ≤ 20160) ∧ (0 ≤ d.el ∧ d.el ≤ 20160) ∧ (0 ≤ d.eh ∧ d.eh ≤ 20160)) ∧ d.bl ≤ d.bh ∧ d.bh ≤ d.el ∧ d.el ≤ d.eh)
def chkR (r : Rul) : Int := if okRul r = true then 0 else 2
def chkD (l : List Dty) : Int := if 20 < l.length then 5 else if (l.any fun d => !okDty d) = true then 2 else 0
def chkRD (r : Rul) (l : List Dty) : Int := if chkR r ≠ 0 then chkR r else chkD l
def lngS (d : Dty) : Sp := ⟨d.bl, d.eh⟩
def shtS (d : Dty) : Sp := ⟨d.bh, d.el⟩
def OkSp (s : Sp) : Prop := 0 ≤ s.b ∧ s.b ≤ s.e ∧ s.e ≤ 20160
theorem lng_ok {d : Dty} (h : okDty d = true) : OkSp (lngS d) := by simp only [okDty, decide_eq_true_eq] at h; unfold OkSp lngS; simp only []; omega
theorem sht_ok {d : Dty} (h : okDty d = true) : OkSp (shtS d) := by simp only [okDty, decide_eq_true_eq] at h; unfold OkSp shtS; simp only []; omega
/-- One time is before another one. -/
def LtS (x y : Sp) : Prop := x.b < y.b ∨ (x.b = y.b ∧ x.e < y.e)
instance (x y : Sp) : Decidable (LtS x y) := inferInstanceAs (Decidable (_ ∨ _))
def cmpS (x y : Sp) : Int := if x.b < y.b then -1 else if y.b < x.b then 1 else if x.e < y.e then -1 else if y.e < x.e then 1 else 0
theorem cmp_neg {x y : Sp} : cmpS x y < 0 ↔ LtS x y := by unfold cmpS LtS; split <;> (try split) <;> (try split) <;> (try split) <;> omega
/-- A time put into sorted ones. -/
def insS (s : Sp) : List Sp → List Sp
  | [] => [s]
  | x :: l => if LtS x s then x :: insS s l else s :: x :: l
def srtS (l : List Sp) : List Sp := l.foldr insS []
def Srt (l : List Sp) : Prop := l.Pairwise (fun x y => ¬ LtS y x)
theorem ins_perm (s : Sp) : ∀ l, (insS s l).Perm (s :: l)
  | [] => List.Perm.refl _
  | x :: l => by
    unfold insS
    split
    · exact ((ins_perm s l).cons x).trans (List.Perm.swap s x l)
    · exact List.Perm.refl _
theorem srt_perm : ∀ l, (srtS l).Perm l
  | [] => List.Perm.refl _
  | x :: l => (ins_perm x (srtS l)).trans ((srt_perm l).cons x)
theorem ins_srt {s : Sp} : ∀ {l}, Srt l → Srt (insS s l)
  | [], _ => List.pairwise_singleton _ _
  | x :: l, h => by
    have hx : ∀ {y}, y ∈ l → ¬ LtS y x := fun hy => List.rel_of_pairwise_cons h hy
    have ih := ins_srt (s := s) (List.Pairwise.of_cons h)
    unfold insS
    split
    · rename_i q
      refine List.Pairwise.cons (fun y hy => ?_) ih
      rcases List.mem_cons.1 ((ins_perm s l).mem_iff.1 hy) with e | hy
      · subst e; unfold LtS at q ⊢; omega
      · exact hx hy
    · rename_i q
      refine List.Pairwise.cons (fun y hy => ?_) h
      rcases List.mem_cons.1 hy with e | hy
      · subst e; exact q
      · have := hx hy; unfold LtS at q this ⊢; omega
theorem srt_srt : ∀ l, Srt (srtS l)
  | [] => List.Pairwise.nil
  | _x :: l => ins_srt (srt_srt l)
theorem srt_unique : ∀ {a b : List Sp}, Srt a → Srt b → a.Perm b → a = b
  | [], b, _, _, h => (List.nil_perm.1 h).symm
  | x :: a, [], _, _, h => absurd (List.perm_nil.1 h) (by simp)
  | x :: a, y :: b, ha, hb, h => by
    have e : x = y := by
      have h1 : x ∈ y :: b := h.mem_iff.1 (by simp)
      have h2 : y ∈ x :: a := h.mem_iff.2 (by simp)
      have q1 : ¬ LtS x y := by
        rcases List.mem_cons.1 h1 with e | h1
        · subst e; unfold LtS; omega
        · exact List.rel_of_pairwise_cons hb h1
      have q2 : ¬ LtS y x := by
        rcases List.mem_cons.1 h2 with e | h2
        · subst e; unfold LtS; omega
        · exact List.rel_of_pairwise_cons ha h2
      unfold LtS at q1 q2
      cases x; cases y
      simp only [Sp.mk.injEq]
      simp only [] at q1 q2
      omega
    subst e
    rw [srt_unique (List.Pairwise.of_cons ha) (List.Pairwise.of_cons hb) (List.Perm.cons_inv h)]
theorem srt_eq {a l : List Sp} (h : Srt a) (hp : a.Perm l) : a = srtS l := srt_unique h (srt_srt l) (hp.trans (srt_perm l).symm)
theorem ins_srtS (s : Sp) (l : List Sp) : insS s (srtS l) = srtS (l ++ [s]) := srt_eq (ins_srt (srt_srt l)) ((ins_perm s _).trans (((srt_perm l).cons s).trans (List.perm_append_comm (l₁ := [s]))))
theorem ins_len (s : Sp) (l : List Sp) : (insS s l).length = l.length + 1 := (ins_perm s l).length_eq
theorem srt_len (l : List Sp) : (srtS l).length = l.length := (srt_perm l).length_eq
theorem ins_ok {s : Sp} {l : List Sp} (hs : OkSp s) (h : ∀ x ∈ l, OkSp x) : ∀ x ∈ insS s l, OkSp x := fun x hx => by
  rcases List.mem_cons.1 ((ins_perm s l).mem_iff.1 hx) with e | hx
  · rw [e]; exact hs
  · exact h x hx
theorem srt_ok {l : List Sp} (h : ∀ x ∈ l, OkSp x) : ∀ x ∈ srtS l, OkSp x := fun x hx => h x ((srt_perm l).mem_iff.1 hx)
theorem ins_at {s : Sp} : ∀ {l : List Sp} {k : Nat}, k ≤ l.length → (∀ j, j < k → LtS (nth l j) s) → (k < l.length → ¬ LtS (nth l k) s) → insS s l = l.take k ++ s :: l.drop k
  | [], k, hk, _, _ => by
    have : k = 0 := by simpa using hk
    subst this; rfl
  | x :: l, 0, _, _, h => by
    have : ¬ LtS x s := h (by simp)
    unfold insS
    rw [if_neg this]; rfl
  | x :: l, k + 1, hk, h1, h2 => by
    have hx : LtS x s := h1 0 (by omega)
    unfold insS
    rw [if_pos hx, ins_at (k := k) (by simpa using hk) (fun j hj => h1 (j + 1) (by omega)) (fun h => h2 (by simpa using h))]
    rfl
/-- Of sorted times those below a place are before a time if the last of them is. -/
theorem srt_below {s : Sp} {l : List Sp} (h : Srt l) {k : Nat} (hk : k ≤ l.length) (hl : 0 < k → LtS (nth l (k - 1)) s) : ∀ j, j < k → LtS (nth l j) s := fun j hj => by
  have h1 := hl (by omega)
  rcases Nat.lt_or_ge j (k - 1) with q | q
  · have := List.pairwise_iff_getElem.1 h j (k - 1) (by omega) (by omega) q
    rw [← nth_eq, ← nth_eq] at this
    unfold LtS at this h1 ⊢; omega
  · rwa [show j = k - 1 by omega]
/-- The shifts: of times behind a first one. -/
def shGo (r : Rul) (x : Shf) : List Sp → List Shf
  | [] => [x]
  | s :: l => if s.b < x.e + r.rest then shGo r ⟨x.b, max x.e s.e, x.w + (s.e - s.b)⟩ l else x :: shGo r ⟨s.b, s.e, s.e - s.b⟩ l
def shiftsP (r : Rul) : List Sp → List Shf
  | [] => []
  | s :: l => shGo r ⟨s.b, s.e, s.e - s.b⟩ l
theorem sh_first {r : Rul} {s : Sp} {l : List Sp} (hr : 1 ≤ r.rest) : shGo r ⟨s.b, s.e, 0⟩ (s :: l) = shiftsP r (s :: l) ∨ ¬ s.b ≤ s.e := by
  by_cases h : s.b ≤ s.e
  · left
    unfold shiftsP
    rw [shGo, if_pos (by show s.b < s.e + r.rest; omega)]
    show shGo r ⟨s.b, max s.e s.e, 0 + (s.e - s.b)⟩ l = _
    rw [Int.max_self, Int.zero_add]
  · exact .inr h
def sumI2 : List Int → Int
  | [] => 0
  | x :: l => x + sumI2 l
theorem sumI2_app (a b : List Int) : sumI2 (a ++ b) = sumI2 a + sumI2 b := by
  induction a with
  | nil => simp [sumI2]
  | cons x a ih => simp only [List.cons_append, sumI2, ih]; omega
theorem sumI2_snoc (a : List Int) (x : Int) : sumI2 (a ++ [x]) = sumI2 a + x := by rw [sumI2_app]; simp [sumI2]
/-- The minutes of a time in a window. -/
def inW (s : Sp) (a b : Int) : Int := max 0 (min s.e b - max s.b a)
/-- The work in the window that ends at a minute. -/
def winP (r : Rul) (l : List Sp) (t : Int) : Int := sumI2 (l.map fun s => inW s (t - r.week) t)
/-- A time begins before the end of one that comes before it. -/
def ovlP (e : Int) : List Sp → Bool
  | [] => false
  | s :: l => decide (s.b < e) || ovlP (max e s.e) l
/-- The first rule that sorted times break. -/
def brokP (r : Rul) (l : List Sp) : Int :=
  if ovlP 0 l = true then 1 else if ((shiftsP r l).any fun x => decide (r.span < x.e - x.b)) = true then 2 else if ((shiftsP r l).any fun x => decide (r.work < x.w)) = true then 3 else if (l.any fun s => decide (r.ww < winP r l s.e)) = true then 4 else 0

theorem any_snoc {α : Type} [Inhabited α] {p : α → Bool} {xs : List α} {k : Nat} (hk : k < xs.length) (h : (xs.take k).any p = false) (hx : p (nth xs k) = false) : (xs.take (k + 1)).any p = false := by
  rw [take_nth hk, List.any_append, h]; simp [hx]
theorem any_hit {α : Type} [Inhabited α] {p : α → Bool} {xs : List α} {k : Nat} (hk : k < xs.length) (hx : p (nth xs k) = true) : decide ((0 : Int) ≤ (k : Int)) = xs.any p := by
  have : xs.any p = true := List.any_eq_true.2 ⟨nth xs k, nth_mem hk, hx⟩
  rw [this]; simp
theorem any_none {α : Type} {p : α → Bool} {xs : List α} {k : Nat} (hk : xs.length ≤ k) (h : (xs.take k).any p = false) : decide ((0 : Int) ≤ -1) = xs.any p := by
  rw [List.take_of_length_le hk] at h; rw [h]; decide
theorem not_any_out (lo hi : Int) (xs : List Int) : (!(xs.any fun n => decide (n < lo ∨ hi < n))) = decide (∀ n ∈ xs, lo ≤ n ∧ n ≤ hi) := by
  rw [Bool.eq_iff_iff]
  simp only [Bool.not_eq_true', List.any_eq_false, decide_eq_true_eq]
  exact ⟨fun h n hn => by have := h n hn; omega, fun h n hn => by have := h n hn; omega⟩
def encI (n : Int) : List Value := [.int .i64 n]
theorem SlI.own {w : World} {b : Nat} {t : TypeId} {xs : List Int} (h : Blk w b t (xs.map (Value.int .i64))) : Sl encI 1 w (some ⟨b, 0, none⟩) b 0 xs :=
  ⟨fun _ => rfl, fun _ => h.lt, fun i hi j v hv => by
    cases j with
    | zero =>
      rw [nth_eq hi] at hv
      simp [encI] at hv
      subst hv
      exact h.get (off := 0 + i * 1 + 0) (by simp [hi])
    | succ j => simp [encI] at hv⟩

def cmpI3 (m n : Int) : Int := if m < n then -1 else if n < m then 1 else 0
def orI (a b : Int) : Int := if a ≠ 0 then a else b
theorem cmpS_eq (x y : Sp) : orI (cmpI3 x.b y.b) (cmpI3 x.e y.e) = cmpS x y := by
  unfold orI cmpI3 cmpS
  by_cases h1 : x.b < y.b
  · simp [h1]
  · by_cases h2 : y.b < x.b
    · simp [h1, h2]
    · simp [h1, h2]

theorem follows : Tryz.prog.follows .mixedOrders = true := by kernel_rfl
theorem own31 : Own Tryz.prog 31 := ⟨Tryz.f31, func31, by kernel_rfl, by kernel_rfl⟩
theorem own48 : Own Tryz.prog 48 := ⟨Tryz.f48, func48, by kernel_rfl, by kernel_rfl⟩
theorem own52 : Own Tryz.prog 52 := ⟨Tryz.f52, func52, by kernel_rfl, by kernel_rfl⟩
theorem own53 : Own Tryz.prog 53 := ⟨Tryz.f53, func53, by kernel_rfl, by kernel_rfl⟩
theorem own72 : Own Tryz.prog 72 := ⟨Tryz.f72, func72, by kernel_rfl, by kernel_rfl⟩
theorem own84 : Own Tryz.prog 84 := ⟨Tryz.f84, func84, by kernel_rfl, by kernel_rfl⟩
theorem isNaN_c (m : Int) (w0 : World) :
    CallsV Tryz.prog 84 [.int .i64 m] w0 (fun v w' => (v = .bool false ∧ Gr w0 w') ∧ Ext w0 w') := by
 refine f_n func84 ?_
 iterate 10 refine st1 ?_
 refine t_samehd (v := .bool false) (by simp) ?_
 refine go ?_
 refine f_1 results84 ?_
 exact ⟨⟨rfl, Gr.refl _⟩, u_d⟩
theorem cmpI_c (m n : Int) (w0 : World) :
    CallsV Tryz.prog 53 [.int .i64 m, .int .i64 n] w0 (fun v w' => (v = .int .i64 (cmpI3 m n) ∧ Gr w0 w') ∧ Ext w0 w') := by
 refine f_n func53 ?_
 refine go ?_
 refine t_call own84 rfl rfl rfl rfl (isNaN_c m _) (fun v3 w4 r6 => ?_)
 obtain ⟨⟨rfl, Gu5⟩, u5⟩ := r6
 have zu5 := u5.size
 refine go ?_
 refine t_call own84 rfl rfl rfl rfl (isNaN_c n _) (fun v9 w10 r12 => ?_)
 obtain ⟨⟨rfl, Gu11⟩, u11⟩ := r12
 have zu11 := u11.size
 refine go ?_
 refine q_p (fun g16 => ?_) fun g16 => ?_
 ·
  refine go ?_
  refine f_1 results53 ?_
  exact ⟨⟨congrArg (Value.int .i64) (by unfold cmpI3; rw [if_pos g16]), (((Gr.refl _).trans Gu5).trans Gu11)⟩, u_d⟩
 refine go ?_
 refine q_p (fun g19 => ?_) fun g19 => ?_
 ·
  refine go ?_
  refine f_1 results53 ?_
  exact ⟨⟨congrArg (Value.int .i64) (by unfold cmpI3; rw [if_neg g16, if_pos g19]), (((Gr.refl _).trans Gu5).trans Gu11)⟩, u_d⟩
 refine go ?_
 refine f_1 results53 ?_
 exact ⟨⟨congrArg (Value.int .i64) (by unfold cmpI3; rw [if_neg g16, if_neg g19]), (((Gr.refl _).trans Gu5).trans Gu11)⟩, u_d⟩
theorem orI_c (m n : Int) (b : Nat) (w0 : World) (hb : Blk w0 b 3 [.int .i64 m, .int .i64 n]) :
    CallsV Tryz.prog 52 [.slice (some ⟨b, 0, none⟩) 2 2] w0 (fun v w' => (v = .int .i64 (orI m n) ∧ Gr w0 w') ∧ Ext w0 w') := by
 refine f_n func52 ?_
 refine go ?_
 refine c_rounds 3 (WR.weak [(3, .int .i64 0), (6, .slice (some ⟨b, 0, none⟩) 2 2), (7, .int .i64 2), (8, .int .i64 0)] ⟨rfl, rfl, rfl, rfl, trivial⟩ (r_round fun K5 hK5 => (q_of ?_)))
 refine go ?_
 refine t_index (j := 0) underlying47 sizeOf3 rfl rfl rfl rfl rfl rfl (by omega) ?_
 refine go ?_
 refine q_p (fun g14 => ?_) fun g14 => ?_
 ·
  refine go ?_
  refine f_1 results52 ?_
  exact ⟨⟨congrArg (Value.int .i64) (by unfold orI; split <;> omega), (Gr.refl _)⟩, u_d⟩
 refine go ?_
 refine hK5 _ _ (WR.weak [(3, .int .i64 0), (6, .slice (some ⟨b, 0, none⟩) 2 2), (7, .int .i64 2), (8, .int .i64 1)] ⟨rfl, rfl, rfl, rfl, trivial⟩ (r_round fun K12 hK12 => (q_of ?_)))
 refine go ?_
 refine t_index (j := 1) underlying47 sizeOf3 rfl rfl rfl rfl rfl rfl (by omega) ?_
 refine go ?_
 refine q_p (fun g14 => ?_) fun g14 => ?_
 ·
  refine go ?_
  refine f_1 results52 ?_
  exact ⟨⟨congrArg (Value.int .i64) (by unfold orI; split <;> omega), (Gr.refl _)⟩, u_d⟩
 refine go ?_
 refine hK12 _ _ (WR.weak [(3, .int .i64 0), (6, .slice (some ⟨b, 0, none⟩) 2 2), (7, .int .i64 2), (8, .int .i64 2)] ⟨rfl, rfl, rfl, rfl, trivial⟩ (r_round fun K19 hK19 => (q_of ?_)))
 refine go ?_
 refine f_1 results52 ?_
 exact ⟨⟨congrArg (Value.int .i64) (by unfold orI; split <;> omega), (Gr.refl _)⟩, u_d⟩
theorem compare_c (x y : Sp) (w0 : World) :
    CallsV Tryz.prog 31 [.agg #[.int .i64 x.b, .int .i64 x.e], .agg #[.int .i64 y.b, .int .i64 y.e]] w0 (fun v w' => (v = .int .i64 (cmpS x y) ∧ Gr w0 w') ∧ Ext w0 w') := by
 refine f_n func31 ?_
 refine go ?_
 refine t_boxG (cs := [.int .i64 x.b, .int .i64 x.e]) rfl rfl rfl rfl (fun bk2 w3 ebk2 sbk2 B4 u5 Gu5 => ?_)
 refine t_boxG (cs := [.int .i64 y.b, .int .i64 y.e]) rfl rfl rfl rfl (fun bk7 w8 ebk7 sbk7 B9 u10 Gu10 => ?_)
 refine go ?_
 refine c_drawnMG follows (fun _ => False) (OTl [0, 2, 4, 6, 10, 12, 14, 16, 9, 19, 21, 23, 24]) (by kernel_rfl) fun w13 u14 Gu14 => ?_
 have zu14 := u14.size
 refine go ?_
 refine t_call own53 rfl rfl rfl rfl (cmpI_c x.b y.b _) (fun v16 w17 r19 => ?_)
 obtain ⟨⟨rfl, Gu18⟩, u18⟩ := r19
 have zu18 := u18.size
 refine go ?_
 refine t_call own53 rfl rfl rfl rfl (cmpI_c x.e y.e _) (fun v21 w22 r24 => ?_)
 obtain ⟨⟨rfl, Gu23⟩, u23⟩ := r24
 have zu23 := u23.size
 refine go ?_
 refine t_bsliceG (ps := [(0, .int .i64 (cmpI3 x.b y.b)), (1, .int .i64 (cmpI3 x.e y.e))]) (cs := [.int .i64 (cmpI3 x.b y.b), .int .i64 (cmpI3 x.e y.e)]) (e := 3) rfl rfl ⟨rfl, rfl⟩ (fun w => by kernel_rfl) (fun bk26 w27 ebk26 sbk26 B28 u29 Gu29 => ?_)
 refine go ?_
 refine t_call own52 rfl rfl rfl rfl (orI_c (cmpI3 x.b y.b) (cmpI3 x.e y.e) bk26 _ B28) (fun v31 w32 r34 => ?_)
 obtain ⟨⟨rfl, Gu33⟩, u33⟩ := r34
 have zu33 := u33.size
 refine go ?_
 refine f_1 results31 ?_
 exact ⟨⟨congrArg (Value.int .i64) (cmpS_eq x y), ((((((((Gr.refl _).trans Gu5).trans Gu10).trans Gu14).trans Gu18).trans Gu23).trans Gu29).trans Gu33)⟩, u_d⟩
abbrev out1 (lo hi n : Int) : Bool := decide (n < lo ∨ hi < n)
theorem within1_c (lo hi n : Int) (b c : Nat) (t1 t2 : TypeId) (w0 : World) (hb : Blk w0 b t1 [.int .i64 lo]) (hc : Blk w0 c t2 [.int .i64 hi]) :
    CallsV Tryz.prog 72 [.int .i64 n, .pointer (some ⟨b, 0, none⟩), .pointer (some ⟨c, 0, none⟩)] w0 (fun v w' => v = .bool (out1 lo hi n) ∧ Ext w0 w') := by
 refine f_n func72 ?_
 refine go ?_
 refine t_splitp 8 rfl (fun g8 => ?_) (fun g8 => ?_)
 ·
  refine go ?_
  refine f_1 results72 ?_
  exact ⟨by simp [out1, *], u_d⟩
 refine go ?_
 refine f_1 results72 ?_
 exact ⟨by simp [out1, *], u_d⟩
theorem indexI_c (p : Int → Bool) (fv : FuncId) (caps : List Value) (xs : List Int) (ao : Option Addr) (b o cap : Nat) (w0 : World) (ho : Own Tryz.prog fv) (hp : ∀ x ∈ xs, ∀ w, Ext w0 w → CallsV Tryz.prog fv ([.int .i64 x] ++ caps) w fun v w' => v = .bool (p x) ∧ Ext w w') (hs : Sl encI 1 w0 ao b o xs) (hl : xs.length ≤ 1000000) :
    CallsV Tryz.prog 71 [.slice ao xs.length cap, .func (.func fv) #[] (caps).toArray] w0 (fun v w' => (∃ n : Int, v = .int .i64 n ∧ decide (0 ≤ n) = xs.any p) ∧ Ext w0 w') := by
 refine f_n func71 ?_
 refine go ?_
 refine x_l1 (fun _ => False) [0, 1, 7] (fun (k : Nat) => [(8, .int .i64 (k : Int))]) (fun k w => (k ≤ xs.length) ∧ ((xs.take k).any p = false)) (fun k => xs.length - k) 0 ⟨Nat.zero_le _, (by simp)⟩ ?_
 rintro k w5 ⟨hle, hnot⟩ u6 zu6 K4 hK4
 have E7 := Sc.mk ((Upd.refl (fun _ => False) w0).nx u6)
 refine go ?_
 refine q_p (fun g9 => ?_) fun g9 => ?_
 ·
  refine go ?_
  refine g_i k (hs.keep E7.u (fun _ h => h)) (fun _ => ?_)
  refine go ?_
  refine t_call (fs := []) (cs := caps) ho rfl rfl rfl rfl (hp (nth xs k) (nth_mem (by omega)) _ E7.u) (fun v14 w15 r17 => ?_)
  obtain ⟨rfl, u16⟩ := r17
  have zu16 := u16.size
  refine go ?_
  refine q_b (fun g16 => ?_) fun g16 => ?_
  ·
   refine go ?_
   refine f_1 results71 ?_
   exact ⟨⟨_, rfl, any_hit (by omega) g16⟩, u_d⟩
  refine go ?_
  exact hK4 (k + 1) ⟨(by omega), (any_snoc (by omega) hnot g16)⟩
 refine go ?_
 refine f_1 results71 ?_
 exact ⟨⟨_, rfl, any_none (by omega) hnot⟩, u_d⟩
theorem containsI_c (p : Int → Bool) (fv : FuncId) (caps : List Value) (xs : List Int) (ao : Option Addr) (b o cap : Nat) (w0 : World) (ho : Own Tryz.prog fv) (hp : ∀ x ∈ xs, ∀ w, Ext w0 w → CallsV Tryz.prog fv ([.int .i64 x] ++ caps) w fun v w' => v = .bool (p x) ∧ Ext w w') (hs : Sl encI 1 w0 ao b o xs) (hl : xs.length ≤ 1000000) :
    CallsV Tryz.prog 44 [.slice ao xs.length cap, .func (.func fv) #[] (caps).toArray] w0 (fun v w' => v = .bool (xs.any p) ∧ Ext w0 w') := by
 refine f_n func44 ?_
 refine go ?_
 refine x_c func71 rfl rfl (indexI_c p fv caps xs ao b o cap _ ho hp hs hl) ?_
 rintro _ w4 ⟨⟨n, rfl, hn⟩, u5⟩ zu5
 refine go ?_
 refine f_1 results44 ?_
 exact ⟨by rw [hn], u_d⟩
theorem indexD_c {α : Type} [Inhabited α] (enc : α → List Value) (hk : ∀ x, (enc x).length = 4) (p : α → Bool) (fv : FuncId) (caps : List Value) (xs : List α) (ao : Option Addr) (b o cap : Nat) (w0 : World) (ho : Own Tryz.prog fv) (hp : ∀ x ∈ xs, ∀ w, Ext w0 w → CallsV Tryz.prog fv ([.agg (enc x).toArray] ++ caps) w fun v w' => v = .bool (p x) ∧ Ext w w') (hs : Sl enc 4 w0 ao b o xs) (hl : xs.length ≤ 1000000) :
    CallsV Tryz.prog 73 [.slice ao xs.length cap, .func (.func fv) #[] (caps).toArray] w0 (fun v w' => (∃ n : Int, v = .int .i64 n ∧ decide (0 ≤ n) = xs.any p) ∧ Ext w0 w') := by
 refine f_n func73 ?_
 refine go ?_
 refine x_l1 (fun _ => False) [0, 1, 7] (fun (k : Nat) => [(8, .int .i64 (k : Int))]) (fun k w => (k ≤ xs.length) ∧ ((xs.take k).any p = false)) (fun k => xs.length - k) 0 ⟨Nat.zero_le _, (by simp)⟩ ?_
 rintro k w5 ⟨hle, hnot⟩ u6 zu6 K4 hK4
 have E7 := Sc.mk ((Upd.refl (fun _ => False) w0).nx u6)
 refine go ?_
 refine q_p (fun g9 => ?_) fun g9 => ?_
 ·
  refine go ?_
  refine g_i k (hs.keep E7.u (fun _ h => h)) (fun _ => ?_)
  refine t_loadN (vs := enc (nth xs k)) isAgg25 sizeOf25 rfl rfl rfl ((hs.keep E7.u (fun _ h => h)).at_ k (by omega)) (hk _) (t_call (fs := []) (cs := caps) ho rfl rfl rfl rfl (hp (nth xs k) (nth_mem (by omega)) _ E7.u) (fun v14 w15 r17 => ?_))
  obtain ⟨rfl, u16⟩ := r17
  have zu16 := u16.size
  refine go ?_
  refine q_b (fun g16 => ?_) fun g16 => ?_
  ·
   refine go ?_
   refine f_1 results73 ?_
   exact ⟨⟨_, rfl, any_hit (by omega) g16⟩, u_d⟩
  refine go ?_
  exact hK4 (k + 1) ⟨(by omega), (any_snoc (by omega) hnot g16)⟩
 refine go ?_
 refine f_1 results73 ?_
 exact ⟨⟨_, rfl, any_none (by omega) hnot⟩, u_d⟩
theorem containsD_c {α : Type} [Inhabited α] (enc : α → List Value) (hk : ∀ x, (enc x).length = 4) (p : α → Bool) (fv : FuncId) (caps : List Value) (xs : List α) (ao : Option Addr) (b o cap : Nat) (w0 : World) (ho : Own Tryz.prog fv) (hp : ∀ x ∈ xs, ∀ w, Ext w0 w → CallsV Tryz.prog fv ([.agg (enc x).toArray] ++ caps) w fun v w' => v = .bool (p x) ∧ Ext w w') (hs : Sl enc 4 w0 ao b o xs) (hl : xs.length ≤ 1000000) :
    CallsV Tryz.prog 47 [.slice ao xs.length cap, .func (.func fv) #[] (caps).toArray] w0 (fun v w' => v = .bool (xs.any p) ∧ Ext w0 w') := by
 refine f_n func47 ?_
 refine go ?_
 refine x_c func73 rfl rfl (indexD_c enc hk p fv caps xs ao b o cap _ ho hp hs hl) ?_
 rintro _ w4 ⟨⟨n, rfl, hn⟩, u5⟩ zu5
 refine go ?_
 refine f_1 results47 ?_
 exact ⟨by rw [hn], u_d⟩
theorem within_c (lo hi : Int) (xs : List Int) (ao : Option Addr) (b o cap : Nat) (w0 : World) (hs : Sl encI 1 w0 ao b o xs) (hl : xs.length ≤ 1000000) :
    CallsV Tryz.prog 46 [.int .i64 lo, .int .i64 hi, .slice ao xs.length cap] w0 (fun v w' => v = .bool (decide (∀ n ∈ xs, lo ≤ n ∧ n ≤ hi)) ∧ Ext w0 w') := by
 refine f_n func46 ?_
 refine go ?_
 refine x_b fun bk2 w3 ebk2 sbk2 B4 u5 => ?_
 refine x_b fun bk7 w8 ebk7 sbk7 B9 u10 => ?_
 refine go ?_
 refine t_mkfunc (vs := []) (us := [.pointer (some ⟨bk2, 0, none⟩), .pointer (some ⟨bk7, 0, none⟩)]) rfl rfl rfl rfl ?_
 have B13 := (B4.kx u10)
 refine x_c func44 rfl rfl (containsI_c (out1 lo hi) 72 [.pointer (some ⟨bk2, 0, none⟩), .pointer (some ⟨bk7, 0, none⟩)] xs ao b o cap _ own72 (fun x _ w u => within1_c lo hi x bk2 bk7 _ _ w (B13.keep u (fun h => h)) (B9.keep u (fun h => h))) (hs.keep (((Upd.refl (fun _ => False) w0).nx u5).nx u10) (fun _ h => h)) hl) ?_
 rintro _ w15 ⟨rfl, u16⟩ zu16
 refine go ?_
 refine f_1 results46 ?_
 exact ⟨by rw [not_any_out], u_d⟩
theorem within4_v (lo hi m n q r : Int) (b : Nat) (t : TypeId) (w : World) (h : Blk w b t [.int .i64 m, .int .i64 n, .int .i64 q, .int .i64 r]) :
    CallsV Tryz.prog 46 [.int .i64 lo, .int .i64 hi, .slice (some ⟨b, 0, none⟩) 4 4] w (fun v w' => v = .bool (decide ((lo ≤ m ∧ m ≤ hi) ∧ (lo ≤ n ∧ n ≤ hi) ∧ (lo ≤ q ∧ q ≤ hi) ∧ (lo ≤ r ∧ r ≤ hi))) ∧ Ext w w') :=
  (within_c lo hi [m, n, q, r] _ b 0 4 w (SlI.own (xs := [m, n, q, r]) h) (by simp)).mono fun v w' ⟨e, u⟩ => ⟨by rw [e]; simp, u⟩
theorem within5_v (lo hi m n q r s : Int) (b : Nat) (t : TypeId) (w : World) (h : Blk w b t [.int .i64 m, .int .i64 n, .int .i64 q, .int .i64 r, .int .i64 s]) :
    CallsV Tryz.prog 46 [.int .i64 lo, .int .i64 hi, .slice (some ⟨b, 0, none⟩) 5 5] w (fun v w' => v = .bool (decide ((lo ≤ m ∧ m ≤ hi) ∧ (lo ≤ n ∧ n ≤ hi) ∧ (lo ≤ q ∧ q ≤ hi) ∧ (lo ≤ r ∧ r ≤ hi) ∧ (lo ≤ s ∧ s ≤ hi))) ∧ Ext w w') :=
  (within_c lo hi [m, n, q, r, s] _ b 0 5 w (SlI.own (xs := [m, n, q, r, s]) h) (by simp)).mono fun v w' ⟨e, u⟩ => ⟨by rw [e]; simp, u⟩
theorem Check_c (r : Rul) (w0 : World) :
    CallsV Tryz.prog 28 [.agg #[.int .i64 r.rest, .int .i64 r.span, .int .i64 r.work, .int .i64 r.week, .int .i64 r.ww]] w0 (fun v w' => v = .int .i64 (chkR r) ∧ Ext w0 w') := by
 refine f_n func28 ?_
 refine go ?_
 refine x_b fun bk2 w3 ebk2 sbk2 B4 u5 => ?_
 refine go ?_
 refine x_l fun bk9 w10 ebk9 sbk9 B11 u12 => ?_
 refine x_c func46 rfl rfl (within5_v 1 20160 r.rest r.span r.work r.week r.ww _ _ _ B11) ?_
 rintro _ w15 ⟨rfl, u16⟩ zu16
 refine go ?_
 refine q_p (fun g15 => ?_) fun g15 => ?_
 ·
  refine go ?_
  refine f_1 results28 ?_
  exact ⟨congrArg (Value.int .i64) (by unfold chkR okRul; simp only [decide_eq_true_eq]; split <;> first | rfl | omega), u_d⟩
 refine go ?_
 refine f_1 results28 ?_
 exact ⟨congrArg (Value.int .i64) (by unfold chkR okRul; simp only [decide_eq_true_eq]; split <;> first | rfl | omega), u_d⟩
theorem isDuty_c (d : Dty) (w0 : World) :
    CallsV Tryz.prog 49 [.agg #[.int .i64 d.bl, .int .i64 d.bh, .int .i64 d.el, .int .i64 d.eh]] w0 (fun v w' => v = .bool (okDty d) ∧ Ext w0 w') := by
 refine f_n func49 ?_
 refine go ?_
 refine x_b fun bk2 w3 ebk2 sbk2 B4 u5 => ?_
 refine go ?_
 refine x_l fun bk8 w9 ebk8 sbk8 B10 u11 => ?_
 refine x_c func46 rfl rfl (within4_v 0 20160 d.bl d.bh d.el d.eh _ _ _ B10) ?_
 rintro _ w14 ⟨rfl, u15⟩ zu15
 refine go ?_
 refine t_splitp 17 rfl (fun g17 => ?_) (fun g17 => ?_)
 ·
  refine go ?_
  refine t_splitp 26 rfl (fun g26 => ?_) (fun g26 => ?_)
  ·
   refine go ?_
   refine t_splitp 35 rfl (fun g35 => ?_) (fun g35 => ?_)
   ·
    refine go ?_
    refine f_1 results49 ?_
    exact ⟨congrArg Value.bool (by rw [Bool.eq_iff_iff]; simp [okDty] <;> omega), u_d⟩
   refine go ?_
   refine f_1 results49 ?_
   exact ⟨congrArg Value.bool (by rw [Bool.eq_iff_iff]; simp [okDty] <;> omega), u_d⟩
  refine go ?_
  refine f_1 results49 ?_
  exact ⟨congrArg Value.bool (by rw [Bool.eq_iff_iff]; simp [okDty] <;> omega), u_d⟩
 refine go ?_
 refine f_1 results49 ?_
 exact ⟨congrArg Value.bool (by rw [Bool.eq_iff_iff]; simp [okDty] <;> omega), u_d⟩
theorem badDty_c (d : Dty) (w0 : World) :
    CallsV Tryz.prog 48 [.agg #[.int .i64 d.bl, .int .i64 d.bh, .int .i64 d.el, .int .i64 d.eh]] w0 (fun v w' => v = .bool (!okDty d) ∧ Ext w0 w') := by
 refine f_n func48 ?_
 refine go ?_
 refine x_b fun bk2 w3 ebk2 sbk2 B4 u5 => ?_
 refine go ?_
 refine x_c func49 rfl rfl (isDuty_c d _) ?_
 rintro _ w9 ⟨rfl, u10⟩ zu10
 refine go ?_
 refine f_1 results48 ?_
 exact ⟨rfl, u_d⟩
theorem checkDuties_c (l : List Dty) (al : Option Addr) (bl ol cl : Nat) (w0 : World) (hl : Sl encDty 4 w0 al bl ol l) (hll : l.length ≤ 1000000) :
    CallsV Tryz.prog 29 [.slice al l.length cl] w0 (fun v w' => v = .int .i64 (chkD l) ∧ Ext w0 w') := by
 refine f_n func29 ?_
 refine go ?_
 refine q_p (fun g3 => ?_) fun g3 => ?_
 ·
  refine go ?_
  refine f_1 results29 ?_
  exact ⟨congrArg (Value.int .i64) (by unfold chkD; rw [if_pos (by omega)]), u_d⟩
 refine go ?_
 refine x_c func47 rfl rfl (containsD_c encDty (fun _ => rfl) (fun x => !okDty x) 48 [] l al bl ol cl _ own48 (fun x _ w _ => badDty_c x w) hl hll) ?_
 rintro _ w7 ⟨rfl, u8⟩ zu8
 refine go ?_
 refine q_b (fun g7 => ?_) fun g7 => ?_
 ·
  refine go ?_
  refine f_1 results29 ?_
  exact ⟨congrArg (Value.int .i64) (by unfold chkD; rw [if_neg (by omega), if_pos g7]), u_d⟩
 refine go ?_
 refine f_1 results29 ?_
 exact ⟨congrArg (Value.int .i64) (by unfold chkD; rw [if_neg (by omega), if_neg (by simp [g7])]), u_d⟩
theorem check_c (r : Rul) (l : List Dty) (al : Option Addr) (bl ol cl : Nat) (w0 : World) (hl : Sl encDty 4 w0 al bl ol l) (hll : l.length ≤ 1000000) :
    CallsV Tryz.prog 11 [.agg #[.int .i64 r.rest, .int .i64 r.span, .int .i64 r.work, .int .i64 r.week, .int .i64 r.ww], .slice al l.length cl] w0 (fun v w' => v = .int .i64 (chkRD r l) ∧ Ext w0 w') := by
 refine f_n func11 ?_
 refine go ?_
 refine x_b fun bk2 w3 ebk2 sbk2 B4 u5 => ?_
 refine go ?_
 refine x_c func28 rfl rfl (Check_c r _) ?_
 rintro _ w10 ⟨rfl, u11⟩ zu11
 refine go ?_
 refine q_p (fun g9 => ?_) fun g9 => ?_
 ·
  refine go ?_
  refine f_1 results11 ?_
  exact ⟨congrArg (Value.int .i64) (by unfold chkRD; rw [if_pos g9]), u_d⟩
 refine go ?_
 refine x_c func29 rfl rfl (checkDuties_c l al bl ol cl _ (hl.keep (((Upd.refl (fun _ => False) w0).nx u5).nx u11) (fun _ h => h)) hll) ?_
 rintro _ w18 ⟨rfl, u19⟩ zu19
 refine go ?_
 refine f_1 results11 ?_
 exact ⟨congrArg (Value.int .i64) (by unfold chkRD; rw [if_neg g9]), u_d⟩
theorem longest_c (d : Dty) (w0 : World) :
    CallsV Tryz.prog 16 [.agg #[.int .i64 d.bl, .int .i64 d.bh, .int .i64 d.el, .int .i64 d.eh]] w0 (fun v w' => v = .agg (encSp (lngS d)).toArray ∧ Ext w0 w') := by
 refine f_n func16 ?_
 refine go ?_
 refine x_b fun bk2 w3 ebk2 sbk2 B4 u5 => ?_
 refine x_n fun bk7 w8 ebk7 sbk7 B9 u10 => ?_
 refine go ?_
 refine x_s fun w13 sw13 B15 u14 => ?_
 refine go ?_
 refine f_ret1 (v := .agg #[.int .i64 d.bl, .int .i64 d.eh]) results16 ⟨_, _, rfl, run_loadVarN (vs := [.int .i64 d.bl, .int .i64 d.eh]) isAgg63 sizeOf63 rfl (B15.at.sub 0 2)⟩ ?_
 exact ⟨rfl, u_d⟩
theorem shortest_c (d : Dty) (w0 : World) :
    CallsV Tryz.prog 14 [.agg #[.int .i64 d.bl, .int .i64 d.bh, .int .i64 d.el, .int .i64 d.eh]] w0 (fun v w' => v = .agg (encSp (shtS d)).toArray ∧ Ext w0 w') := by
 refine f_n func14 ?_
 refine go ?_
 refine x_b fun bk2 w3 ebk2 sbk2 B4 u5 => ?_
 refine x_n fun bk7 w8 ebk7 sbk7 B9 u10 => ?_
 refine go ?_
 refine x_s fun w13 sw13 B15 u14 => ?_
 refine go ?_
 refine f_ret1 (v := .agg #[.int .i64 d.bh, .int .i64 d.el]) results14 ⟨_, _, rfl, run_loadVarN (vs := [.int .i64 d.bh, .int .i64 d.el]) isAgg63 sizeOf63 rfl (B15.at.sub 0 2)⟩ ?_
 exact ⟨rfl, u_d⟩
theorem work_c (s : Sp) (w0 : World) (hs : OkSp s) :
    CallsV Tryz.prog 57 [.agg #[.int .i64 s.b, .int .i64 s.e]] w0 (fun v w' => v = .int .i64 (s.e - s.b) ∧ Ext w0 w') := by
 unfold OkSp at hs
 refine f_n func57 ?_
 refine go ?_
 refine x_b fun bk2 w3 ebk2 sbk2 B4 u5 => ?_
 refine go ?_
 refine f_1 results57 ?_
 exact ⟨rfl, u_d⟩
theorem in_c (s : Sp) (a b : Int) (w0 : World) (hs : OkSp s) (ha : -100000 ≤ a ∧ a ≤ 100000) (hb : -100000 ≤ b ∧ b ≤ 100000) :
    CallsV Tryz.prog 36 [.agg #[.int .i64 s.b, .int .i64 s.e], .int .i64 a, .int .i64 b] w0 (fun v w' => v = .int .i64 (inW s a b) ∧ Ext w0 w') := by
 unfold OkSp at hs
 refine f_n func36 ?_
 refine go ?_
 refine x_b fun bk2 w3 ebk2 sbk2 B4 u5 => ?_
 refine go ?_
 refine t_min rfl rfl rfl rfl ?_
 refine go ?_
 refine t_max rfl rfl rfl rfl ?_
 refine go ?_
 refine t_max rfl rfl rfl rfl ?_
 refine go ?_
 refine f_1 results36 ?_
 exact ⟨rfl, u_d⟩

end Go.Proofs.YtbcedieodibehaaGreat
namespace Go.Proofs.YtbcedieodibehaaGreat
open Go Go.RowKit Go.Proofs.Tryz
set_option maxRecDepth 10000
theorem search_c (l : List Sp) (al : Option Addr) (bl ol cl : Nat) (s : Sp) (w0 : World) (hl : Sl encSp 2 w0 al bl ol l) (hll : l.length ≤ 100000) (hs : Srt l) :
    CallsV Tryz.prog 32 [.slice al l.length cl, .agg #[.int .i64 s.b, .int .i64 s.e], .func (.func 31) #[] #[]] w0 (fun v w' => (∃ (k : Nat) (b : Bool), v = .tuple #[.int .i64 (k : Int), .bool b] ∧ k ≤ l.length ∧ (∀ j, j < k → LtS (nth l j) s) ∧ (k < l.length → ¬ LtS (nth l k) s)) ∧ Ext w0 w') := by
 refine f_n func32 ?_
 refine go ?_
 refine x_b fun bk2 w3 ebk2 sbk2 B4 u5 => ?_
 refine go ?_
 refine x_l2 (fun _ => False) [0, 2, 4, 8] (fun (i : Nat) (j : Nat) => [(9, .int .i64 (i : Int)), (10, .int .i64 (j : Int))]) (fun i j w => (i ≤ j) ∧ (j ≤ l.length) ∧ (0 < i → LtS (nth l (i - 1)) s) ∧ (j < l.length → ¬ LtS (nth l j) s)) (fun i j => j - i) 0 l.length ⟨(Nat.zero_le _), (Nat.le_refl _), (fun h => absurd h (Nat.lt_irrefl _)), (fun h => absurd h (Nat.lt_irrefl _))⟩ ?_
 rintro i j w11 ⟨hij, hjl, hi, hj⟩ u12 zu12 K10 hK10
 have E13 := Sc.mk (((Upd.refl (fun _ => False) w0).nx u5).nx u12)
 refine go ?_
 refine q_p (fun g17 => ?_) fun g17 => ?_
 ·
  refine go ?_
  refine t_conv underlying3 underlying118 rfl rfl rfl (IntWalk.u64_in _ (by omega)) (t_shr1 rfl rfl rfl rfl (by omega) (t_conv underlying118 underlying3 rfl rfl rfl (IntWalk.i64_in _ (by omega)) ?_))
  refine go ?_
  refine c_drawnM follows (fun _ => False) (OTl [0, 2, 4, 6, 8, 10, 13, 14]) (by kernel_rfl) fun w18 u19 => ?_
  have zu19 := u19.size
  refine go ?_
  refine y_i ((i + j) / 2) (hl.keep (E13.u.nx u19) (fun _ h => h)) (fun _ => ?_) (hj := (by omega))
  refine go ?_
  refine x_c func31 rfl rfl (compare_c (nth l ((i + j) / 2)) s _) ?_
  rintro _ w23 ⟨⟨rfl, _⟩, u24⟩ zu24
  refine go ?_
  refine q_p (fun g31 => ?_) fun g31 => ?_
  ·
   refine go ?_
   exact hK10 ((i + j) / 2 + 1) j ⟨(by show ((i + j) / 2) + 1 ≤ j; omega), (by omega), (fun _ => by show LtS (nth l (((i + j) / 2) + 1 - 1)) s; rw [Nat.add_sub_cancel]; exact cmp_neg.1 g31), hj⟩ (hs := by exact ⟨(congrArg (fun z => some (Value.int .i64 z)) (by omega)), (congrArg (fun z => some (Value.int .i64 z)) (by omega)), rfl, rfl, rfl, rfl, trivial⟩)
  refine go ?_
  exact hK10 i ((i + j) / 2) ⟨(by omega), (by omega), hi, (fun _ => fun h => g31 (cmp_neg.2 h))⟩ (hs := by exact ⟨(congrArg (fun z => some (Value.int .i64 z)) (by omega)), (congrArg (fun z => some (Value.int .i64 z)) (by omega)), rfl, rfl, rfl, rfl, trivial⟩)
 refine go ?_
 refine c_drawnM follows (fun _ => False) (OTl [0, 2, 4, 6, 8, 10, 12, 14, 16, 18, 20, 23, 24, 26, 28, 30]) (by kernel_rfl) fun w28 u29 => ?_
 have zu29 := u29.size
 refine go ?_
 refine y_splitp 39 rfl (fun g39 => ?_) (fun g39 => ?_)
 ·
  refine go ?_
  refine y_i i (hl.keep (E13.u.nx u29) (fun _ h => h)) (fun _ => ?_)
  refine go ?_
  refine x_c func31 rfl rfl (compare_c (nth l i) s _) ?_
  rintro _ w33 ⟨⟨rfl, _⟩, u34⟩ zu34
  refine go ?_
  refine f_ret2 (v1 := .int .i64 (i : Int)) (v2 := .bool (decide ((cmpS (nth l i) s) = 0))) results32 rfl rfl ?_
  have hij2 : i = j := by omega
  subst hij2
  exact ⟨⟨i, _, rfl, hjl, srt_below hs hjl hi, hj⟩, u_d⟩
 refine go ?_
 refine f_ret2 (v1 := .int .i64 (i : Int)) (v2 := .bool false) results32 rfl rfl ?_
 have hij2 : i = j := by omega
 subst hij2
 exact ⟨⟨i, _, rfl, hjl, srt_below hs hjl hi, hj⟩, u_d⟩
theorem clone_c (l : List Sp) (al : Option Addr) (bl ol cl : Nat) (w0 : World) (hl : Sl encSp 2 w0 al bl ol l) (hll : l.length ≤ 100000) (hpos : 0 < w0.heap.size) :
    CallsV Tryz.prog 34 [.slice al l.length cl] w0 (fun v w' => (∃ ao g cp, v = .slice ao (List.length l) cp ∧ Acc encSp 2 63 w0.heap.size w' ao g cp l) ∧ Ext w0 w') := by
 refine f_n func34 ?_
 refine go ?_
 refine t_nilS underlying58 rfl rfl rfl rfl ?_
 refine go ?_
 refine q_b (fun g4 => ?_) fun g4 => ?_
 ·
  refine go ?_
  refine f_1 results34 ?_
  have hl0 : l = [] := List.eq_nil_of_length_eq_zero (by
    rcases Nat.eq_zero_or_pos l.length with h | h
    · exact h
    · rw [hl.addr h] at g4; cases g4)
  exact ⟨⟨none, 0, 0, by rw [hl0]; rfl, by rw [hl0]; exact Acc.nil _ _ _ _ _ hpos (by omega)⟩, u_d⟩
 refine go ?_
 refine x_l fun bk6 w7 ebk6 sbk6 B8 u9 => ?_
 refine go ?_
 refine t_copyE (enc := encSp) (z := .agg #[.int .i64 0, .int .i64 0]) (bytes := 16) (k := 2) (ys := l) underlying58 (by kernel_rfl) rfl (by decide) (fun _ => rfl) (by intro x; simp [encSp, Value.oneCell']) rfl rfl rfl rfl B8 (hl.keep ((Upd.refl (fun _ => False) w0).nx u9) (fun _ h => h)) (by omega) (by decide) (fun ao1 g1 c1 w11 A13 u12 ge1 => ?_)
 have zu12 := u12.size
 refine go ?_
 refine f_1 results34 ?_
 obtain ⟨g9, ha9⟩ := Acc.lower (base' := w0.heap.size) A13 (by omega) hpos
 exact ⟨⟨ao1, g9, c1, rfl, ha9⟩, u_d⟩
set_option maxHeartbeats 4000000 in
theorem insert_c (l : List Sp) (ao : Option Addr) (gb cp base k bv : Nat) (s : Sp) (w0 : World) (ha : Acc encSp 2 63 base w0 ao gb cp l) (hk : k ≤ l.length) (hll : l.length ≤ 100000) (hbs : base ≤ w0.heap.size) (hb : Blk w0 bv 63 (encSp s)) (hvg0 : base ≤ gb → bv ≠ gb) :
    CallsV Tryz.prog 33 [.slice ao l.length cp, .int .i64 (k : Int), .slice (some ⟨bv, 0, none⟩) 1 1] w0 (fun v w' => (∃ ao' g' cp', v = .slice ao' (List.length (l.take k ++ s :: l.drop k)) cp' ∧ Acc encSp 2 63 base w' ao' g' cp' (l.take k ++ s :: l.drop k)) ∧ Upd (fun i => i = gb ∧ base ≤ i) w0 w') := by
 have hcl := ha.cap_le
 have hgl := ha.lt
 have hbl := hb.lt
 refine f_n func33 ?_
 refine go ?_
 refine t_sliceFrom (k) underlying58 sizeOf63 rfl rfl rfl rfl rfl hk hcl ?_
 refine go ?_
 refine q_p (fun g22 => ?_) fun g22 => ?_
 ·
  refine go ?_
  refine t_append2 (z := .agg #[.int .i64 0, .int .i64 0]) (bytes := 16) (k := 2) (base := base) s underlying58 underlying57 (by kernel_rfl) rfl (by decide) (fun _ => rfl) (by intro x; simp [encSp, Value.oneCell']) rfl rfl rfl rfl ha hb (by omega) (by omega) (by decide) (fun ao10 gb11 cp12 w13 A14 u15 gegb11 lngb11 => ?_)
  have zu15 := u15.size
  have lt_gb11 := A14.lt
  refine go ?_
  refine f_1 results33 ?_
  have hxe : (l.take k ++ s :: l.drop k) = l ++ [s] := by rw [show k = l.length by omega, List.take_length, List.drop_length]
  exact ⟨⟨ao10, gb11, cp12, by rw [hxe], by rw [hxe]; exact A14⟩, u_d⟩
 have hkl : k < l.length := by omega
 obtain ⟨hao, hbg, hlc, hcM0, cs0, hB0, hB0l, hB0t⟩ := Acc.raw ha (.inr (by omega))
 subst hao
 have hvg : bv ≠ gb := hvg0 hbg
 have hAtk : At w0 gb 0 ((l.take k).flatMap encSp) := by
   have h9 := (ha.sl (fun _ => rfl)).cellsFrom (k := 2) (by decide) (fun _ => rfl) 0 k
   rw [List.drop_zero, Nat.zero_add, Nat.zero_mul] at h9
   exact h9
 have hgl0 := hB0.lt
 refine go ?_
 refine t_cap underlying58 rfl rfl rfl rfl ?_
 refine go ?_
 refine q_p (fun g31 => ?_) fun g31 => ?_
 ·
  refine go ?_
  refine t_sliceTo (k) underlying58 sizeOf63 rfl rfl rfl rfl rfl (by omega) (t_same 34 (v := .slice (some ⟨gb, 0, none⟩) k cp) rfl (by rw [subAddr_some (by omega)]) ?_)
  refine go ?_
  refine t_appZ (cs := (l.take k).flatMap encSp) (m := l.length + 1 - k) (n := l.length + 1) (off := 0) (z := .agg #[.int .i64 0, .int .i64 0]) (bytes := 16) (k := 2) underlying58 underlying3 (by kernel_rfl) rfl (by decide) rfl rfl rfl rfl (by omega) (by omega) (by omega) (by omega) (by rw [flatMap_len (k := 2) (fun _ => rfl), List.length_take]; omega) hAtk (by omega) (by decide) (fun cN w20 zs hcN hcM hzl B22 u21 => ?_)
  have zu21 := u21.size
  obtain ⟨C0, hC0⟩ : ∃ C, (l.take k).flatMap encSp ++ zs = C := ⟨_, rfl⟩
  rw [hC0] at B22
  have hlN := B22.lt
  have hCl : C0.length = cN * 2 := by rw [← hC0, List.length_append, hzl, flatMap_len (k := 2) (fun _ => rfl), List.length_take]; omega
  have hCt : C0.take (k * 2) = (l.take k).flatMap encSp := by rw [← hC0, List.take_left' (by rw [flatMap_len (k := 2) (fun _ => rfl), List.length_take]; omega)]
  refine go ?_
  refine t_sliceFrom (k) underlying58 sizeOf63 rfl rfl rfl rfl (by omega) (by omega) (by omega) (t_same 43 (v := .slice (some ⟨w0.heap.size, 0 + k * 2, none⟩) ((l.length + 1) - k) (cN - k)) rfl (by rw [subAddr_some (by omega)]) ?_)
  refine go ?_
  have B28 := (hb.kx u21)
  refine t_copyB (k := 2) (cs := C0) (vs := (encSp s)) underlying58 sizeOf63 rfl rfl rfl rfl B22 (B28.at) (by show 2 = min _ _ * 2; omega) (by show 0 + k * 2 + 2 ≤ _; rw [hCl]; omega) (by intro v hv; simp [encSp] at hv; rcases hv with rfl | rfl <;> rfl) (fun w25 sw25 B27 u26 => ?_)
  have zu26 := u26.size
  obtain ⟨C1, hC1⟩ : ∃ C, lay C0 (0 + k * 2) (encSp s) = C := ⟨_, rfl⟩
  rw [hC1] at B27
  have lC1 : C1.length = C0.length := by rw [← hC1, lay_length]
  refine go ?_
  refine c_drawnM follows (fun i => i = w0.heap.size) (OTl [0, 2, 4, 6, 8, 10, 12, 14, 17]) (by kernel_rfl) fun w31 u32 => ?_
  have zu32 := u32.size
  refine go ?_
  refine y_sliceFrom ((k + 1)) underlying58 sizeOf63 rfl rfl rfl rfl (by omega) (by omega) (by omega) (y_same 50 (v := .slice (some ⟨w0.heap.size, 0 + (k + 1) * 2, none⟩) ((l.length + 1) - (k + 1)) (cN - (k + 1))) rfl (by rw [subAddr_some (by omega)]) ?_)
  refine go ?_
  refine y_sliceFrom (k) underlying58 sizeOf63 rfl rfl rfl rfl (by omega) (by omega) (by omega) (y_same 53 (v := .slice (some ⟨gb, 0 + k * 2, none⟩) (l.length - k) (cp - k)) rfl (by rw [subAddr_some (by omega)]) ?_)
  refine go ?_
  have D37 := (((ha.keep u21 (fun _ h => h)).keep u26 (fun hb => show ¬ (gb = w0.heap.size) by first | omega | assumption)).keep u32 (fun _ h => h))
  refine t_copyB (k := 2) (cs := C1) (vs := ((l.drop k).flatMap encSp)) underlying58 sizeOf63 rfl rfl rfl rfl (B27.kx u32) (by have h9 := (D37.sl (fun _ => rfl)).cellsFrom (k := 2) (by decide) (fun _ => rfl) k (l.length - k); rwa [List.take_of_length_le (by rw [List.length_drop]; omega)] at h9) (by rw [flatMap_len (k := 2) (fun _ => rfl), List.length_drop]; omega) (by rw [flatMap_len (k := 2) (fun _ => rfl), List.length_drop]; rw [lC1, hCl]; omega) (by intro v hv; obtain ⟨x, _, hv⟩ := List.mem_flatMap.1 hv; simp [encSp] at hv; rcases hv with rfl | rfl <;> rfl) (fun w34 sw34 B36 u35 => ?_)
  have zu35 := u35.size
  obtain ⟨C2, hC2⟩ : ∃ C, lay C1 (0 + (k + 1) * 2) ((l.drop k).flatMap encSp) = C := ⟨_, rfl⟩
  rw [hC2] at B36
  have lC2 : C2.length = C1.length := by rw [← hC2, lay_length]
  refine go ?_
  refine f_1 results33 ?_
  have hln : (l.take k ++ s :: l.drop k).length = l.length + 1 := by rw [List.length_append, List.length_cons, List.length_take, List.length_drop]; omega
  refine ⟨⟨some ⟨w0.heap.size, 0, none⟩, w0.heap.size, cN, by rw [hln], Acc.ofRaw (cs := C2) B36 (Nat.le_trans hbs (by omega)) (by rw [hln]; omega) hcM (by rw [lC2, lC1]; exact hCl) ?_⟩, u_d⟩
  rw [hln]
  have h9 := ins_rawA (k := 2) (s := s) (fun _ => rfl) rfl hkl (by rw [hCl]; omega) hCt
  rw [← hC2, ← hC1, Nat.zero_add, Nat.zero_add]
  exact h9
 refine go ?_
 refine t_sliceTo (l.length + 1) underlying58 sizeOf63 rfl rfl rfl rfl (by omega) (by omega) (t_same 60 (v := .slice (some ⟨gb, 0, none⟩) (l.length + 1) cp) rfl (by rw [subAddr_some (by omega)]) ?_)
 refine go ?_
 refine t_sliceFrom ((k + 1)) underlying58 sizeOf63 rfl rfl rfl rfl (by omega) (by omega) (by omega) (t_same 66 (v := .slice (some ⟨gb, 0 + (k + 1) * 2, none⟩) ((l.length + 1) - (k + 1)) (cp - (k + 1))) rfl (by rw [subAddr_some (by omega)]) (t_apart (tS := 57) (tR := 4) (e := 63) func54 (by kernel_rfl) (by kernel_rfl) (by kernel_rfl) (by kernel_rfl) underlying57 sizeOf63 rfl rfl rfl rfl rfl hb hB0 hvg (by rw [hB0l]; omega) ?_))
 refine go ?_
 refine c_drawnM follows (fun i => i = gb) (OTl [0, 2, 4, 6, 8, 10, 12, 14, 17]) (by kernel_rfl) fun w44 u45 => ?_
 have zu45 := u45.size
 refine go ?_
 refine y_sliceFrom ((k + 1)) underlying58 sizeOf63 rfl rfl rfl rfl (by omega) (by omega) (by omega) (y_same 73 (v := .slice (some ⟨gb, 0 + (k + 1) * 2, none⟩) ((l.length + 1) - (k + 1)) (cp - (k + 1))) rfl (by rw [subAddr_some (by omega)]) ?_)
 refine go ?_
 refine y_sliceFrom (k) underlying58 sizeOf63 rfl rfl rfl rfl (by omega) (by omega) (by omega) (y_same 76 (v := .slice (some ⟨gb, 0 + k * 2, none⟩) ((l.length + 1) - k) (cp - k)) rfl (by rw [subAddr_some (by omega)]) ?_)
 refine go ?_
 have D50 := (ha.keep u45 (fun _ h => h))
 refine t_copyB (k := 2) (cs := cs0) (vs := ((l.drop k).flatMap encSp)) underlying58 sizeOf63 rfl rfl rfl rfl (hB0.kx u45) (by have h9 := (D50.sl (fun _ => rfl)).cellsFrom (k := 2) (by decide) (fun _ => rfl) k (l.length - k); rwa [List.take_of_length_le (by rw [List.length_drop]; omega)] at h9) (by rw [flatMap_len (k := 2) (fun _ => rfl), List.length_drop]; omega) (by rw [flatMap_len (k := 2) (fun _ => rfl), List.length_drop]; rw [hB0l]; omega) (by intro v hv; obtain ⟨x, _, hv⟩ := List.mem_flatMap.1 hv; simp [encSp] at hv; rcases hv with rfl | rfl <;> rfl) (fun w47 sw47 B49 u48 => ?_)
 have zu48 := u48.size
 obtain ⟨C1, hC1⟩ : ∃ C, lay cs0 (0 + (k + 1) * 2) ((l.drop k).flatMap encSp) = C := ⟨_, rfl⟩
 rw [hC1] at B49
 have lC1 : C1.length = cs0.length := by rw [← hC1, lay_length]
 refine go ?_
 refine t_sliceFrom (k) underlying58 sizeOf63 rfl rfl rfl rfl (by omega) (by omega) (by omega) (t_same 80 (v := .slice (some ⟨gb, 0 + k * 2, none⟩) ((l.length + 1) - k) (cp - k)) rfl (by rw [subAddr_some (by omega)]) ?_)
 refine go ?_
 have B56 := ((hb.kx u45).keep u48 (by omega))
 refine t_copyB (k := 2) (cs := C1) (vs := (encSp s)) underlying58 sizeOf63 rfl rfl rfl rfl B49 (B56.at) (by show 2 = min _ _ * 2; omega) (by show 0 + k * 2 + 2 ≤ _; rw [lC1, hB0l]; omega) (by intro v hv; simp [encSp] at hv; rcases hv with rfl | rfl <;> rfl) (fun w53 sw53 B55 u54 => ?_)
 have zu54 := u54.size
 obtain ⟨C2, hC2⟩ : ∃ C, lay C1 (0 + k * 2) (encSp s) = C := ⟨_, rfl⟩
 rw [hC2] at B55
 have lC2 : C2.length = C1.length := by rw [← hC2, lay_length]
 refine go ?_
 refine f_1 results33 ?_
 have hln : (l.take k ++ s :: l.drop k).length = l.length + 1 := by rw [List.length_append, List.length_cons, List.length_take, List.length_drop]; omega
 refine ⟨⟨some ⟨gb, 0, none⟩, gb, cp, by rw [hln], Acc.ofRaw (cs := C2) B55 (hbg) (by rw [hln]; omega) hcM0 (by rw [lC2, lC1]; exact hB0l) ?_⟩, u_d⟩
 rw [hln]
 have h9 := ins_rawB (k := 2) (s := s) (fun _ => rfl) rfl hkl (by rw [hB0l]; omega) (raw_take (k := 2) (fun _ => rfl) hB0t (by omega))
 rw [← hC2, ← hC1, Nat.zero_add, Nat.zero_add]
 exact h9

end Go.Proofs.YtbcedieodibehaaGreat
namespace Go.Proofs
open Go.Shelf
def YtbcedieodibehaaGreat.sortQ_ren : Go.Shelf.Ren := ⟨fun | 14 => 50 | 20 => 74 | 21 => 75 | 22 => 76 | 23 => 77 | 24 => 78 | 25 => 79 | 26 => 80 | 27 => 81 | 46 => 99 | 47 => 100 | 48 => 101 | 49 => 102 | 50 => 103 | 15 => 51 | 57 => 109 | 28 => 82 | 29 => 83 | n => n, fun | 24 => 63 | 22 => 57 | 3 => 3 | 25 => 81 | 4 => 4 | 0 => 0 | 46 => 140 | 45 => 139 | 50 => 83 | 66 => 154 | 39 => 118 | 55 => 148 | 70 => 158 | 76 => 162 | 77 => 163 | 53 => 146 | 5 => 5 | 9 => 9 | n => n, fun | n => n⟩
theorem YtbcedieodibehaaGreat.sortQ : Go.Proofs.SlLaysF0.n14 Tryz.prog YtbcedieodibehaaGreat.sortQ_ren := {
  mixed := by kernel_rfl
  f14 := ⟨Tryz.f50.name, by decide, Tryz.func50.trans (congrArg some (by kernel_rfl))⟩
  f15 := Tryz.func51.trans (congrArg some (by kernel_rfl))
  f20 := ⟨Tryz.f74.name, by decide, Tryz.func74.trans (congrArg some (by kernel_rfl))⟩
  f21 := ⟨Tryz.f75.name, by decide, Tryz.func75.trans (congrArg some (by kernel_rfl))⟩
  f22 := ⟨Tryz.f76.name, by decide, Tryz.func76.trans (congrArg some (by kernel_rfl))⟩
  f23 := ⟨Tryz.f77.name, by decide, Tryz.func77.trans (congrArg some (by kernel_rfl))⟩
  f24 := ⟨Tryz.f78.name, by decide, Tryz.func78.trans (congrArg some (by kernel_rfl))⟩
  f25 := ⟨Tryz.f79.name, by decide, Tryz.func79.trans (congrArg some (by kernel_rfl))⟩
  f26 := ⟨Tryz.f80.name, by decide, Tryz.func80.trans (congrArg some (by kernel_rfl))⟩
  f27 := ⟨Tryz.f81.name, by decide, Tryz.func81.trans (congrArg some (by kernel_rfl))⟩
  f28 := Tryz.func82.trans (congrArg some (by kernel_rfl))
  f29 := Tryz.func83.trans (congrArg some (by kernel_rfl))
  f46 := ⟨Tryz.f99.name, by decide, Tryz.func99.trans (congrArg some (by kernel_rfl))⟩
  f47 := Tryz.func100.trans (congrArg some (by kernel_rfl))
  f48 := Tryz.func101.trans (congrArg some (by kernel_rfl))
  f49 := ⟨Tryz.f102.name, by decide, Tryz.func102.trans (congrArg some (by kernel_rfl))⟩
  f50 := ⟨Tryz.f103.name, by decide, Tryz.func103.trans (congrArg some (by kernel_rfl))⟩
  f57 := ⟨Tryz.f109.name, by decide, Tryz.func109.trans (congrArg some (by kernel_rfl))⟩
  t0 := Tryz.underlying0
  a0 := Tryz.isAgg0
  z0 := Tryz.sizeOf0
  v0 := Tryz.zeroValue0
  t3 := Tryz.underlying3
  a3 := Tryz.isAgg3
  z3 := Tryz.sizeOf3
  v3 := Tryz.zeroValue3
  t4 := Tryz.underlying4
  a4 := Tryz.isAgg4
  z4 := Tryz.sizeOf4
  v4 := Tryz.zeroValue4
  t5 := Tryz.underlying5
  a5 := Tryz.isAgg5
  z5 := Tryz.sizeOf5
  v5 := Tryz.zeroValue5
  t9 := Tryz.underlying9
  a9 := Tryz.isAgg9
  z9 := Tryz.sizeOf9
  v9 := Tryz.zeroValue9
  t22 := Tryz.underlying57
  a22 := Tryz.isAgg57
  z22 := Tryz.sizeOf57
  v22 := Tryz.zeroValue57
  t25 := Tryz.underlying81
  a25 := Tryz.isAgg81
  z25 := Tryz.sizeOf81
  v25 := Tryz.zeroValue81
  t39 := Tryz.underlying118
  a39 := Tryz.isAgg118
  z39 := Tryz.sizeOf118
  v39 := Tryz.zeroValue118
  t45 := Tryz.underlying139
  a45 := Tryz.isAgg139
  z45 := Tryz.sizeOf139
  v45 := Tryz.zeroValue139
  t46 := Tryz.underlying140
  a46 := Tryz.isAgg140
  z46 := Tryz.sizeOf140
  v46 := Tryz.zeroValue140
  t50 := Tryz.underlying83
  a50 := Tryz.isAgg83
  z50 := Tryz.sizeOf83
  v50 := Tryz.zeroValue83
  t53 := Tryz.underlying146
  a53 := Tryz.isAgg146
  z53 := Tryz.sizeOf146
  v53 := Tryz.zeroValue146
  t55 := Tryz.underlying148
  a55 := Tryz.isAgg148
  z55 := Tryz.sizeOf148
  v55 := Tryz.zeroValue148
  t66 := Tryz.underlying154
  a66 := Tryz.isAgg154
  z66 := Tryz.sizeOf154
  v66 := Tryz.zeroValue154
  t70 := Tryz.underlying158
  a70 := Tryz.isAgg158
  z70 := Tryz.sizeOf158
  v70 := Tryz.zeroValue158
  t76 := Tryz.underlying162
  a76 := Tryz.isAgg162
  z76 := Tryz.sizeOf162
  v76 := Tryz.zeroValue162
  t77 := Tryz.underlying163
  a77 := Tryz.isAgg163
  z77 := Tryz.sizeOf163
  v77 := Tryz.zeroValue163 }
end Go.Proofs
namespace Go.Proofs.YtbcedieodibehaaGreat
open Go Go.RowKit

/-- Ascending: no later one is less than an earlier one. -/
def Asc {α : Type} [Inhabited α] (cf : α → α → Int) (ys : List α) : Prop := ∀ i j, i < j → j < ys.length → ¬ cf (nth ys j) (nth ys i) < 0

theorem nth_toArray {α : Type} [Inhabited α] (xs : List α) (i : Nat) : (xs.toArray)[i]! = nth xs i := by
  unfold nth
  rw [List.getD_eq_getElem?_getD]
  rcases Nat.lt_or_ge i xs.length with h | h
  · rw [getElem!_pos _ i (by simpa using h)]
    simp [h]
  · rw [getElem!_neg _ i (by simpa using h)]
    simp [List.getElem?_eq_none h]

theorem upd_sorted {α : Type} [Inhabited α] (enc : α → List Value) (k : Nat) (w : World) (g n : Nat) (d : Array α) (os : Array Obj) : Upd (· = g) w (sortWorldK enc k w g 0 n d os) := by
  refine ⟨rfl, rfl, rfl, ?_, fun i hi hn => ?_⟩
  · simp only [sortWorldK, Go.Sort.putRowK, Go.Sort.grow, Go.Sort.putRow, Go.Sort.mapBlock, Go.Sort.ahead]
    simp
  · simp only [sortWorldK, Go.Sort.putRowK, Go.Sort.grow, Go.Sort.putRow, Go.Sort.mapBlock, Go.Sort.ahead]
    rw [Array.getElem?_append_left (by simpa using hi), Array.getElem?_modify]
    simp [show ¬ g = i from fun e => hn e.symm]

theorem acc_sorted {α : Type} [Inhabited α] {enc : α → List Value} {k : Nat} {e : TypeId} {base : Nat} {w : World} {ao : Option Addr} {g cap : Nat} {xs : List α} (hk0 : 0 < k) (hk : ∀ x, (enc x).length = k) (h : Acc enc k e base w ao g cap xs) (hx : 0 < xs.length)
    (d : Array α) (hd : d.size = xs.length) (n : Nat) (os : Array Obj) : Acc enc k e base (sortWorldK enc k w g 0 n d os) ao g cap d.toList := by
  have u := upd_sorted enc k w g n d os
  refine ⟨Nat.lt_of_lt_of_le h.lt u.size, ?_⟩
  rcases h.at_ with ⟨_, h1, _⟩ | ⟨h1, h2, cur, h3, h4, h5, h6, h7⟩
  · subst h1; simp at hx
  · refine .inr ⟨h1, h2, Go.Sort.putCells id 0 (Go.Sort.flatK enc k d) cur, ?_, by simpa [hd] using h4, h5, by simp [Go.Sort.putCells, h6], ?_⟩
    · simp only [sortWorldK, Go.Sort.putRowK, Go.Sort.grow, Go.Sort.putRow, Go.Sort.mapBlock, Go.Sort.ahead]
      rw [Array.getElem?_append_left (by simpa using h.lt), Array.getElem?_modify]
      simp [h3, Go.Sort.onCells]
    · have hcap : xs.length * k ≤ cap * k := Nat.mul_le_mul_right _ h4
      apply List.ext_getElem?
      intro t
      rcases Nat.lt_or_ge t (xs.length * k) with ht | ht
      · have htd : t / k < d.toList.length := by simp [hd]; exact (Nat.div_lt_iff_lt_mul hk0).2 ht
        have hmod : t % k < k := Nat.mod_lt _ hk0
        have hv : (enc (nth d.toList (t / k)))[t % k]? = some ((enc (nth d.toList (t / k)))[t % k]'(by rw [hk]; exact hmod)) := by simp [hk, hmod]
        have h8 := flatMap_at hk d.toList (t / k) (t % k) _ htd hv
        rw [show t / k * k + t % k = t from Nat.div_add_mod' t k] at h8
        rw [h8, List.getElem?_take, if_pos (by simpa [hd] using ht)]
        have htc : t < cur.size := by omega
        rw [Array.getElem?_toList]
        simp only [Go.Sort.putCells]
        rw [Array.getElem?_mapIdx]
        simp only [Array.getElem?_eq_getElem htc, Option.map_some, Nat.zero_le, true_and, Nat.zero_add, Nat.sub_zero, id]
        rw [if_pos (by rw [Go.Sort.size_flatK, hd]; exact ht), Go.Sort.get_flatK _ _ _ t (by rw [hd]; exact ht)]
        have hda : d[t / k]! = nth d.toList (t / k) := by
          have := nth_toArray d.toList (t / k)
          simpa using this
        rw [hda, getElem!_pos _ (t % k) (by rw [hk]; exact hmod)]
      · rw [List.getElem?_eq_none (by simp [hd]; omega), List.getElem?_eq_none (by rw [flatMap_len hk]; simp [hd]; omega)]

theorem holdsK_acc {α : Type} [Inhabited α] {enc : α → List Value} {k : Nat} {e : TypeId} {base : Nat} {w : World} {ao : Option Addr} {g cap : Nat} {xs : List α} (hk0 : 0 < k) (hk : ∀ x, (enc x).length = k) (h : Acc enc k e base w ao g cap xs) (hx : 0 < xs.length) : Go.Sort.HoldsK enc k w g 0 xs.toArray := by
  intro t ht
  rw [Go.Sort.size_flatK] at ht
  have ht' : t < xs.length * k := by simpa using ht
  rw [Go.Sort.get_flatK _ _ _ t ht, nth_toArray]
  have hmod : t % k < k := Nat.mod_lt _ hk0
  have htd : t / k < xs.length := (Nat.div_lt_iff_lt_mul hk0).2 ht'
  have h8 := (h.sl hk).at_ (t / k) htd (t % k) ((enc (nth xs (t / k)))[t % k]'(by rw [hk]; exact hmod)) (by simp [hk, hmod])
  rw [Nat.zero_add, Nat.div_add_mod'] at h8
  refine ⟨by rw [Nat.zero_add, h8, getElem!_pos _ (t % k) (by rw [hk]; exact hmod)]; rfl, ?_⟩
  rcases h.at_ with ⟨_, h1, _⟩ | ⟨_, _, cur, h3, _⟩
  · subst h1; simp at hx
  · simp [World.frozen?, h3]

/-- A comparison that lays blocks, draws, and turns nothing. -/
def CmpOk {α : Type} (P : Program) (g : Nat) (enc : α → List Value) (cf : α → α → Int) : Prop :=
  ∀ (x y : α) (W : World), Calls P g #[.agg (enc x).toArray, .agg (enc y).toArray] W fun e w' => e = .returned (.int .i64 (cf x y)) ∧ ∃ q os', w' = Go.Sort.grow (W.drewN q) os'

end Go.Proofs.YtbcedieodibehaaGreat
namespace Go.Proofs.YtbcedieodibehaaGreat
open Go Go.RowKit

theorem Gr.grow {w w' : World} (h : Gr w w') : ∃ q os', w' = Go.Sort.grow (w.drewN q) os' := by
  obtain ⟨h1, h2, h3, h4, os, h5⟩ := h
  refine ⟨w'.drawn - w.drawn, os, ?_⟩
  cases w; cases w'
  simp only [Go.Sort.grow, World.drewN] at *
  simp_all
theorem len_c {P : Program} {ρ : Go.Shelf.Ren} (L : SlLaysF0.n14 P ρ) (n : Nat) (hn : n ≤ 1000000) (w : World) : CallsV P (ρ.f 15) [.int .u64 (n : Int)] w fun v w' => ∃ k : Nat, v = .int .i64 (k : Int) ∧ k < 4611686018427387904 ∧ Ext w w' := by
  have h := Any.bits_Len (SlLaysF0.n15.bits (P := P) (ρ := ρ) { L with }) (n : Int) w (by omega) (by omega)
  rw [Int.toNat_natCast] at h
  refine Calls.mono h ?_
  rintro e w' ⟨rfl, rfl⟩
  exact ⟨_, rfl, Lib.bitLen n, rfl, Nat.lt_of_le_of_lt (Lib.bitLen_le n 62 (by omega) (by omega)) (by omega), Upd.refl _ _⟩
theorem pdq_c {α : Type} [Inhabited α] {P : Program} {ρ : Go.Shelf.Ren} (L : SlLaysF0.n14 P ρ) (k : Nat) (hk0 : 0 < k) (aE : ∀ w, (isAgg (ρ.t 24)).run P w = .ok true w) (zE : ∀ w, (sizeOf (ρ.t 24)).run P w = .ok k w) (enc : α → List Value) (hk : ∀ x, (enc x).length = k) (h1 : ∀ x, ∀ v ∈ enc x, v.oneCell' = true)
    (cf : α → α → Int) (hO : Go.Sort.SWO (ltOf cf)) (g : Nat) (eg : Own P g) (hcmp : CmpOk P g enc cf) (e : TypeId) (base : Nat) (ao : Option Addr) (gb cap : Nat) (xs : List α) (lim : Nat) (hlim : lim < 4611686018427387904) (w : World) (ha : Acc enc k e base w ao gb cap xs) (hlen : xs.length ≤ 1000000) :
    CallsV P (ρ.f 14) [.slice ao xs.length cap, .int .i64 0, .int .i64 (xs.length : Int), .int .i64 (lim : Int), .func (.func g) #[] #[]] w fun v w' => ∃ ys, List.Perm ys xs ∧ Asc cf ys ∧ Acc enc k e base w' ao gb cap ys ∧ Upd (fun i => i = gb ∧ base ≤ i) w w' ∧ v = .tuple #[] := by
  rcases Nat.eq_zero_or_pos xs.length with h0 | h0
  · have : xs = [] := List.eq_nil_of_length_eq_zero h0
    subst this
    refine Calls.mono (AnyF.pdqsortCmpFunc_none L ao cap lim _ w) ?_
    rintro e w' ⟨rfl, rfl⟩
    exact ⟨_, rfl, [], List.Perm.refl _, fun i j _ h => by simp at h, ha, Upd.refl _ _, rfl⟩
  · have hao := (ha.sl hk).addr h0
    have hb : base ≤ gb := by
      rcases ha.at_ with ⟨_, h2, _⟩ | ⟨_, h2, _⟩
      · subst h2; simp at h0
      · exact h2
    have hsz : xs.toArray.size = xs.length := by simp
    have hH := holdsK_acc hk0 hk ha h0
    have hc := AnyQ.pdqsortCmpFunc_all L k aE zE enc cf g #[] hO gb 0 cap xs.toArray w (fun args w => eg.run args w) (fun m os dk _ x y => hcmp x y _) ⟨hk, h1, hH, ha.lt⟩ (xs.length + 1) 0 xs.length lim xs.toArray w (by omega) rfl (SWK.start hH) (Nat.zero_le _) (by rw [hsz]; exact Nat.le_refl _) (by rw [hsz]; omega) hlim (Or.inl rfl)
    rw [hsz] at hc
    subst hao
    refine Calls.mono hc ?_
    rintro e w' ⟨rfl, n, os, rfl⟩
    have hps := Go.Sort.pdq_sorts (ltOf cf) hO xs.toArray 0 xs.length lim true true (Nat.zero_le _) (by rw [hsz]; exact Nat.le_refl _) (Or.inl rfl)
    have hp := hps.1
    have hs := hps.2
    generalize Go.Sort.pdq (ltOf cf) xs.toArray 0 xs.length lim true true = d' at hp hs ⊢
    have hds : d'.size = xs.length := by rw [hp.1]; simp
    have hdl : d'.toList.length = xs.length := by simpa using hds
    have hacc := acc_sorted hk0 hk ha h0 d' hds n os
    refine ⟨_, rfl, d'.toList, ?_, ?_, hacc, (upd_sorted enc k w gb n d' os).mono (fun i hi => ⟨hi, by omega⟩), rfl⟩
    · have h3 := hp.2.2
      rw [show d'.extract 0 xs.length = d' from by rw [← hds]; exact Array.extract_size, show xs.toArray.extract 0 xs.length = xs.toArray from by rw [← hsz]; exact Array.extract_size] at h3
      simpa using h3
    · intro i j hij hj
      have h4 := hs i j (Nat.zero_le _) hij (by omega)
      have hn : ∀ i, d'[i]! = nth d'.toList i := fun i => by have := nth_toArray d'.toList i; simpa using this
      rw [hn, hn] at h4
      unfold ltOf at h4
      simpa using h4
end Go.Proofs.YtbcedieodibehaaGreat
