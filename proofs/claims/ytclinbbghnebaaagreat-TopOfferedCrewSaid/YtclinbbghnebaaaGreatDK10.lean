/-
  Part 10 of the proof: contracts and plain laws. Conditions: none.
-/
import Derived.Shelf.SlSortCmp.WholeK
import Derived.Shelf.SlSortCmp.NoneTotal
import Derived.Ground.SlsfProg
import Derived.Test.YtclinbbghnebaaaGreatProg
import Derived.Test.YtclinbbghnebaaaGreatDK9
namespace Go.Proofs.YtclinbbghnebaaaGreat
open Go Go.RowKit Go.Proofs.Tryz
set_option maxRecDepth 10000

/-- A time of work. -/
structure Sp where
  b : Int
  e : Int
instance : Inhabited Sp := ⟨⟨default, default⟩⟩
/-- A duty: the bounds of its begin, and of its end. -/
structure Dty where
  bl : Int
  bh : Int
  el : Int
  eh : Int
instance : Inhabited Dty := ⟨⟨default, default, default, default⟩⟩
structure Rul where
  rest : Int
  span : Int
  work : Int
  week : Int
  ww : Int
instance : Inhabited Rul := ⟨⟨default, default, default, default, default⟩⟩
structure Shf where
  b : Int
  e : Int
  w : Int
instance : Inhabited Shf := ⟨⟨default, default, default⟩⟩
def encSp (x : Sp) : List Value := [.int .i64 x.b, .int .i64 x.e]
def encDty (x : Dty) : List Value := [.int .i64 x.bl, .int .i64 x.bh, .int .i64 x.el, .int .i64 x.eh]
def encShf (x : Shf) : List Value := [.int .i64 x.b, .int .i64 x.e, .int .i64 x.w]
def okRul (r : Rul) : Bool := decide ((1 ≤ r.rest ∧ r.rest ≤ 20160) ∧ (1 ≤ r.span ∧ r.span ≤ 20160) ∧ (1 ≤ r.work ∧ r.work ≤ 20160) ∧ (1 ≤ r.week ∧ r.week ≤ 20160) ∧ (1 ≤ r.ww ∧ r.ww ≤ 20160))
def okDty (d : Dty) : Bool := decide (((0 ≤ d.bl ∧ d.bl ≤ 20160) ∧ (0 ≤ d.bh ∧ d.bh ≤ 20160) ∧ (0 ≤ d.el ∧ d.el ≤ 20160) ∧ (0 ≤ d.eh ∧ d.eh ≤ 20160)) ∧ d.bl ≤ d.bh ∧ d.bh ≤ d.el ∧ d.el ≤ d.eh)
def chkR (r : Rul) : Int := if okRul r = true then 0 else 2
def chkD (l : List Dty) : Int := if 20 < l.length then 5 else if (l.any fun d => !okDty d) = true then 2 else 0
def chkRD (r : Rul) (l : List Dty) : Int := if chkR r ≠ 0 then chkR r else chkD l
def lngS (d : Dty) : Sp := ⟨d.bl, d.eh⟩
def shtS (d : Dty) : Sp := ⟨d.bh, d.el⟩
def OkSp (s : Sp) : Prop := 0 ≤ s.b ∧ s.b ≤ s.e ∧ s.e ≤ 20160
theorem lng_ok {d : Dty} (h : okDty d = true) : OkSp (lngS d) := by simp only [okDty, decide_eq_true_eq] at h; unfold OkSp lngS; simp only []; omega
theorem sht_ok {d : Dty} (h : okDty d = true) : OkSp (shtS d) := by simp only [okDty, decide_eq_true_eq] at h; unfold OkSp shtS; simp only []; omega
/-- One time is before another one. -/
def LtS (x y : Sp) : Prop := x.b < y.b ∨ (x.b = y.b ∧ x.e < y.e)
instance (x y : Sp) : Decidable (LtS x y) := inferInstanceAs (Decidable (_ ∨ _))
def cmpS (x y : Sp) : Int := if x.b < y.b then -1 else if y.b < x.b then 1 else if x.e < y.e then -1 else if y.e < x.e then 1 else 0
theorem cmp_neg {x y : Sp} : cmpS x y < 0 ↔ LtS x y := by unfold cmpS LtS; split <;> (try split) <;> (try split) <;> (try split) <;> omega
/-- A time put into sorted ones. -/
def insS (s : Sp) : List Sp → List Sp
  | [] => [s]
  | x :: l => if LtS x s then x :: insS s l else s :: x :: l
def srtS (l : List Sp) : List Sp := l.foldr insS []
def Srt (l : List Sp) : Prop := l.Pairwise (fun x y => ¬ LtS y x)
theorem ins_perm (s : Sp) : ∀ l, (insS s l).Perm (s :: l)
  | [] => List.Perm.refl _
  | x :: l => by
    unfold insS
    split
    · exact ((ins_perm s l).cons x).trans (List.Perm.swap s x l)
    · exact List.Perm.refl _
theorem srt_perm : ∀ l, (srtS l).Perm l
  | [] => List.Perm.refl _
  | x :: l => (ins_perm x (srtS l)).trans ((srt_perm l).cons x)
theorem ins_srt {s : Sp} : ∀ {l}, Srt l → Srt (insS s l)
  | [], _ => List.pairwise_singleton _ _
  | x :: l, h => by
    have hx : ∀ {y}, y ∈ l → ¬ LtS y x := fun hy => List.rel_of_pairwise_cons h hy
    have ih := ins_srt (s := s) (List.Pairwise.of_cons h)
    unfold insS
    split
    · rename_i q
      refine List.Pairwise.cons (fun y hy => ?_) ih
      rcases List.mem_cons.1 ((ins_perm s l).mem_iff.1 hy) with e | hy
      · subst e; unfold LtS at q ⊢; omega
      · exact hx hy
    · rename_i q
      refine List.Pairwise.cons (fun y hy => ?_) h
      rcases List.mem_cons.1 hy with e | hy
      · subst e; exact q
      · have := hx hy; unfold LtS at q this ⊢; omega
theorem srt_srt : ∀ l, Srt (srtS l)
  | [] => List.Pairwise.nil
  | _x :: l => ins_srt (srt_srt l)
theorem srt_unique : ∀ {a b : List Sp}, Srt a → Srt b → a.Perm b → a = b
  | [], b, _, _, h => (List.nil_perm.1 h).symm
  | x :: a, [], _, _, h => absurd (List.perm_nil.1 h) (by simp)
  | x :: a, y :: b, ha, hb, h => by
    have e : x = y := by
      have h1 : x ∈ y :: b := h.mem_iff.1 (by simp)
      have h2 : y ∈ x :: a := h.mem_iff.2 (by simp)
      have q1 : ¬ LtS x y := by
        rcases List.mem_cons.1 h1 with e | h1
        · subst e; unfold LtS; omega
        · exact List.rel_of_pairwise_cons hb h1
      have q2 : ¬ LtS y x := by
        rcases List.mem_cons.1 h2 with e | h2
        · subst e; unfold LtS; omega
        · exact List.rel_of_pairwise_cons ha h2
      unfold LtS at q1 q2
      cases x; cases y
      simp only [Sp.mk.injEq]
      simp only [] at q1 q2
      omega
    subst e
    rw [srt_unique (List.Pairwise.of_cons ha) (List.Pairwise.of_cons hb) (List.Perm.cons_inv h)]
theorem srt_eq {a l : List Sp} (h : Srt a) (hp : a.Perm l) : a = srtS l := srt_unique h (srt_srt l) (hp.trans (srt_perm l).symm)
theorem ins_srtS (s : Sp) (l : List Sp) : insS s (srtS l) = srtS (l ++ [s]) := srt_eq (ins_srt (srt_srt l)) ((ins_perm s _).trans (((srt_perm l).cons s).trans (List.perm_append_comm (l₁ := [s]))))
theorem ins_len (s : Sp) (l : List Sp) : (insS s l).length = l.length + 1 := (ins_perm s l).length_eq
theorem srt_len (l : List Sp) : (srtS l).length = l.length := (srt_perm l).length_eq
theorem ins_ok {s : Sp} {l : List Sp} (hs : OkSp s) (h : ∀ x ∈ l, OkSp x) : ∀ x ∈ insS s l, OkSp x := fun x hx => by
  rcases List.mem_cons.1 ((ins_perm s l).mem_iff.1 hx) with e | hx
  · rw [e]; exact hs
  · exact h x hx
theorem srt_ok {l : List Sp} (h : ∀ x ∈ l, OkSp x) : ∀ x ∈ srtS l, OkSp x := fun x hx => h x ((srt_perm l).mem_iff.1 hx)
theorem ins_at {s : Sp} : ∀ {l : List Sp} {k : Nat}, k ≤ l.length → (∀ j, j < k → LtS (nth l j) s) → (k < l.length → ¬ LtS (nth l k) s) → insS s l = l.take k ++ s :: l.drop k
  | [], k, hk, _, _ => by
    have : k = 0 := by simpa using hk
    subst this; rfl
  | x :: l, 0, _, _, h => by
    have : ¬ LtS x s := h (by simp)
    unfold insS
    rw [if_neg this]; rfl
  | x :: l, k + 1, hk, h1, h2 => by
    have hx : LtS x s := h1 0 (by omega)
    unfold insS
    rw [if_pos hx, ins_at (k := k) (by simpa using hk) (fun j hj => h1 (j + 1) (by omega)) (fun h => h2 (by simpa using h))]
    rfl
/-- Of sorted times those below a place are before a time if the last of them is. -/
theorem srt_below {s : Sp} {l : List Sp} (h : Srt l) {k : Nat} (hk : k ≤ l.length) (hl : 0 < k → LtS (nth l (k - 1)) s) : ∀ j, j < k → LtS (nth l j) s := fun j hj => by
  have h1 := hl (by omega)
  rcases Nat.lt_or_ge j (k - 1) with q | q
  · have := List.pairwise_iff_getElem.1 h j (k - 1) (by omega) (by omega) q
    rw [← nth_eq, ← nth_eq] at this
    unfold LtS at this h1 ⊢; omega
  · rwa [show j = k - 1 by omega]
/-- The shifts: of times behind a first one. -/
def shGo (r : Rul) (x : Shf) : List Sp → List Shf
  | [] => [x]
  | s :: l => if s.b < x.e + r.rest then shGo r ⟨x.b, max x.e s.e, x.w + (s.e - s.b)⟩ l else x :: shGo r ⟨s.b, s.e, s.e - s.b⟩ l
def shiftsP (r : Rul) : List Sp → List Shf
  | [] => []
  | s :: l => shGo r ⟨s.b, s.e, s.e - s.b⟩ l
theorem sh_first {r : Rul} {s : Sp} {l : List Sp} (hr : 1 ≤ r.rest) : shGo r ⟨s.b, s.e, 0⟩ (s :: l) = shiftsP r (s :: l) ∨ ¬ s.b ≤ s.e := by
  by_cases h : s.b ≤ s.e
  · left
    unfold shiftsP
    rw [shGo, if_pos (by show s.b < s.e + r.rest; omega)]
    show shGo r ⟨s.b, max s.e s.e, 0 + (s.e - s.b)⟩ l = _
    rw [Int.max_self, Int.zero_add]
  · exact .inr h
def sumI2 : List Int → Int
  | [] => 0
  | x :: l => x + sumI2 l
theorem sumI2_app (a b : List Int) : sumI2 (a ++ b) = sumI2 a + sumI2 b := by
  induction a with
  | nil => simp [sumI2]
  | cons x a ih => simp only [List.cons_append, sumI2, ih]; omega
theorem sumI2_snoc (a : List Int) (x : Int) : sumI2 (a ++ [x]) = sumI2 a + x := by rw [sumI2_app]; simp [sumI2]
/-- The minutes of a time in a window. -/
def inW (s : Sp) (a b : Int) : Int := max 0 (min s.e b - max s.b a)
/-- The work in the window that ends at a minute. -/
def winP (r : Rul) (l : List Sp) (t : Int) : Int := sumI2 (l.map fun s => inW s (t - r.week) t)
/-- A time begins before the end of one that comes before it. -/
def ovlP (e : Int) : List Sp → Bool
  | [] => false
  | s :: l => decide (s.b < e) || ovlP (max e s.e) l
/-- The first rule that sorted times break. -/
def brokP (r : Rul) (l : List Sp) : Int :=
  if ovlP 0 l = true then 1 else if ((shiftsP r l).any fun x => decide (r.span < x.e - x.b)) = true then 2 else if ((shiftsP r l).any fun x => decide (r.work < x.w)) = true then 3 else if (l.any fun s => decide (r.ww < winP r l s.e)) = true then 4 else 0

def orI (a b : Int) : Int := if a ≠ 0 then a else b
theorem cmpS_eq (x y : Sp) : orI (cmpI3 x.b y.b) (cmpI3 x.e y.e) = cmpS x y := by
  unfold orI cmpI3 cmpS
  by_cases h1 : x.b < y.b
  · simp [h1]
  · by_cases h2 : y.b < x.b
    · simp [h1, h2]
    · simp [h1, h2]

theorem own128 : Own Tryz.prog 128 := ⟨Tryz.f128, func128, by kernel_rfl, by kernel_rfl⟩
theorem own134 : Own Tryz.prog 134 := ⟨Tryz.f134, func134, by kernel_rfl, by kernel_rfl⟩
theorem own189 : Own Tryz.prog 189 := ⟨Tryz.f189, func189, by kernel_rfl, by kernel_rfl⟩
theorem orI_c (m n : Int) (b : Nat) (w0 : World) (hb : Blk w0 b 3 [.int .i64 m, .int .i64 n]) :
    CallsV Tryz.prog 114 [.slice (some ⟨b, 0, none⟩) 2 2] w0 (fun v w' => (v = .int .i64 (orI m n) ∧ Gr w0 w') ∧ Ext w0 w') := by
 refine f_n func114 ?_
 refine go ?_
 refine c_rounds 3 (WR.weak [(3, .int .i64 0), (6, .slice (some ⟨b, 0, none⟩) 2 2), (7, .int .i64 2), (8, .int .i64 0)] ⟨rfl, rfl, rfl, rfl, trivial⟩ (r_round fun K5 hK5 => (q_of ?_)))
 refine go ?_
 refine t_index (j := 0) underlying38 sizeOf3 rfl rfl rfl rfl rfl rfl (by omega) ?_
 refine go ?_
 refine q_p (fun g14 => ?_) fun g14 => ?_
 ·
  refine go ?_
  refine f_1 results114 ?_
  exact ⟨⟨congrArg (Value.int .i64) (by unfold orI; split <;> omega), (Gr.refl _)⟩, u_d⟩
 refine go ?_
 refine hK5 _ _ (WR.weak [(3, .int .i64 0), (6, .slice (some ⟨b, 0, none⟩) 2 2), (7, .int .i64 2), (8, .int .i64 1)] ⟨rfl, rfl, rfl, rfl, trivial⟩ (r_round fun K12 hK12 => (q_of ?_)))
 refine go ?_
 refine t_index (j := 1) underlying38 sizeOf3 rfl rfl rfl rfl rfl rfl (by omega) ?_
 refine go ?_
 refine q_p (fun g14 => ?_) fun g14 => ?_
 ·
  refine go ?_
  refine f_1 results114 ?_
  exact ⟨⟨congrArg (Value.int .i64) (by unfold orI; split <;> omega), (Gr.refl _)⟩, u_d⟩
 refine go ?_
 refine hK12 _ _ (WR.weak [(3, .int .i64 0), (6, .slice (some ⟨b, 0, none⟩) 2 2), (7, .int .i64 2), (8, .int .i64 2)] ⟨rfl, rfl, rfl, rfl, trivial⟩ (r_round fun K19 hK19 => (q_of ?_)))
 refine go ?_
 refine f_1 results114 ?_
 exact ⟨⟨congrArg (Value.int .i64) (by unfold orI; split <;> omega), (Gr.refl _)⟩, u_d⟩
theorem compare_c (x y : Sp) (w0 : World) :
    CallsV Tryz.prog 128 [.agg #[.int .i64 x.b, .int .i64 x.e], .agg #[.int .i64 y.b, .int .i64 y.e]] w0 (fun v w' => (v = .int .i64 (cmpS x y) ∧ Gr w0 w') ∧ Ext w0 w') := by
 refine f_n func128 ?_
 refine go ?_
 refine t_boxG (cs := [.int .i64 x.b, .int .i64 x.e]) rfl rfl rfl rfl (fun bk2 w3 ebk2 sbk2 B4 u5 Gu5 => ?_)
 refine t_boxG (cs := [.int .i64 y.b, .int .i64 y.e]) rfl rfl rfl rfl (fun bk7 w8 ebk7 sbk7 B9 u10 Gu10 => ?_)
 refine go ?_
 refine c_drawnMG follows (fun _ => False) (OTl [0, 2, 4, 6, 10, 12, 14, 16, 9, 19, 21, 23, 24]) (by kernel_rfl) fun w13 u14 Gu14 => ?_
 have zu14 := u14.size
 refine go ?_
 refine t_call own93 rfl rfl rfl rfl (cmpI_c x.b y.b _) (fun v16 w17 r19 => ?_)
 obtain ⟨⟨rfl, Gu18⟩, u18⟩ := r19
 have zu18 := u18.size
 refine go ?_
 refine t_call own93 rfl rfl rfl rfl (cmpI_c x.e y.e _) (fun v21 w22 r24 => ?_)
 obtain ⟨⟨rfl, Gu23⟩, u23⟩ := r24
 have zu23 := u23.size
 refine go ?_
 refine t_bsliceG (ps := [(0, .int .i64 (cmpI3 x.b y.b)), (1, .int .i64 (cmpI3 x.e y.e))]) (cs := [.int .i64 (cmpI3 x.b y.b), .int .i64 (cmpI3 x.e y.e)]) (e := 3) rfl rfl ⟨rfl, rfl⟩ (fun w => by kernel_rfl) (fun bk26 w27 ebk26 sbk26 B28 u29 Gu29 => ?_)
 refine go ?_
 refine t_call own114 rfl rfl rfl rfl (orI_c (cmpI3 x.b y.b) (cmpI3 x.e y.e) bk26 _ B28) (fun v31 w32 r34 => ?_)
 obtain ⟨⟨rfl, Gu33⟩, u33⟩ := r34
 have zu33 := u33.size
 refine go ?_
 refine f_1 results128 ?_
 exact ⟨⟨congrArg (Value.int .i64) (cmpS_eq x y), ((((((((Gr.refl _).trans Gu5).trans Gu10).trans Gu14).trans Gu18).trans Gu23).trans Gu29).trans Gu33)⟩, u_d⟩
theorem within1_cK (lo hi n : Int) (b c : Nat) (t1 t2 : TypeId) (w0 : World) (hb : Blk w0 b t1 [.int .i64 lo]) (hc : Blk w0 c t2 [.int .i64 hi]) :
    CallsV Tryz.prog 134 [.int .i64 n, .pointer (some ⟨b, 0, none⟩), .pointer (some ⟨c, 0, none⟩)] w0 (fun v w' => v = .bool (out1 lo hi n) ∧ Ext w0 w') := by
 refine f_n func134 ?_
 refine go ?_
 refine t_splitp 8 rfl (fun g8 => ?_) (fun g8 => ?_)
 ·
  refine go ?_
  refine f_1 results134 ?_
  exact ⟨by simp [out1, *], u_d⟩
 refine go ?_
 refine f_1 results134 ?_
 exact ⟨by simp [out1, *], u_d⟩
theorem indexD_c {α : Type} [Inhabited α] (enc : α → List Value) (hk : ∀ x, (enc x).length = 4) (p : α → Bool) (fv : FuncId) (caps : List Value) (xs : List α) (ao : Option Addr) (b o cap : Nat) (w0 : World) (ho : Own Tryz.prog fv) (hp : ∀ x ∈ xs, ∀ w, Ext w0 w → CallsV Tryz.prog fv ([.agg (enc x).toArray] ++ caps) w fun v w' => v = .bool (p x) ∧ Ext w w') (hs : Sl enc 4 w0 ao b o xs) (hl : xs.length ≤ 1000000) :
    CallsV Tryz.prog 230 [.slice ao xs.length cap, .func (.func fv) #[] (caps).toArray] w0 (fun v w' => (∃ n : Int, v = .int .i64 n ∧ decide (0 ≤ n) = xs.any p) ∧ Ext w0 w') := by
 refine f_n func230 ?_
 refine go ?_
 refine x_l1 (fun _ => False) [0, 1, 7] (fun (k : Nat) => [(8, .int .i64 (k : Int))]) (fun k w => (k ≤ xs.length) ∧ ((xs.take k).any p = false)) (fun k => xs.length - k) 0 ⟨Nat.zero_le _, (by simp)⟩ ?_
 rintro k w5 ⟨hle, hnot⟩ u6 zu6 K4 hK4
 have E7 := Sc.mk ((Upd.refl (fun _ => False) w0).nx u6)
 refine go ?_
 refine q_p (fun g9 => ?_) fun g9 => ?_
 ·
  refine go ?_
  refine g_i k (hs.keep E7.u (fun _ h => h)) (fun _ => ?_)
  refine t_loadN (vs := enc (nth xs k)) isAgg77 sizeOf77 rfl rfl rfl ((hs.keep E7.u (fun _ h => h)).at_ k (by omega)) (hk _) (t_call (fs := []) (cs := caps) ho rfl rfl rfl rfl (hp (nth xs k) (nth_mem (by omega)) _ E7.u) (fun v14 w15 r17 => ?_))
  obtain ⟨rfl, u16⟩ := r17
  have zu16 := u16.size
  refine go ?_
  refine q_b (fun g16 => ?_) fun g16 => ?_
  ·
   refine go ?_
   refine f_1 results230 ?_
   exact ⟨⟨_, rfl, any_hit (by omega) g16⟩, u_d⟩
  refine go ?_
  exact hK4 (k + 1) ⟨(by omega), (any_snoc (by omega) hnot g16)⟩
 refine go ?_
 refine f_1 results230 ?_
 exact ⟨⟨_, rfl, any_none (by omega) hnot⟩, u_d⟩
theorem containsD_c {α : Type} [Inhabited α] (enc : α → List Value) (hk : ∀ x, (enc x).length = 4) (p : α → Bool) (fv : FuncId) (caps : List Value) (xs : List α) (ao : Option Addr) (b o cap : Nat) (w0 : World) (ho : Own Tryz.prog fv) (hp : ∀ x ∈ xs, ∀ w, Ext w0 w → CallsV Tryz.prog fv ([.agg (enc x).toArray] ++ caps) w fun v w' => v = .bool (p x) ∧ Ext w w') (hs : Sl enc 4 w0 ao b o xs) (hl : xs.length ≤ 1000000) :
    CallsV Tryz.prog 188 [.slice ao xs.length cap, .func (.func fv) #[] (caps).toArray] w0 (fun v w' => v = .bool (xs.any p) ∧ Ext w0 w') := by
 refine f_n func188 ?_
 refine go ?_
 refine x_c func230 rfl rfl (indexD_c enc hk p fv caps xs ao b o cap _ ho hp hs hl) ?_
 rintro _ w4 ⟨⟨n, rfl, hn⟩, u5⟩ zu5
 refine go ?_
 refine f_1 results188 ?_
 exact ⟨by rw [hn], u_d⟩
theorem within_cK (lo hi : Int) (xs : List Int) (ao : Option Addr) (b o cap : Nat) (w0 : World) (hs : Sl encI 1 w0 ao b o xs) (hl : xs.length ≤ 1000000) :
    CallsV Tryz.prog 69 [.int .i64 lo, .int .i64 hi, .slice ao xs.length cap] w0 (fun v w' => v = .bool (decide (∀ n ∈ xs, lo ≤ n ∧ n ≤ hi)) ∧ Ext w0 w') := by
 refine f_n func69 ?_
 refine go ?_
 refine x_b fun bk2 w3 ebk2 sbk2 B4 u5 => ?_
 refine x_b fun bk7 w8 ebk7 sbk7 B9 u10 => ?_
 refine go ?_
 refine t_mkfunc (vs := []) (us := [.pointer (some ⟨bk2, 0, none⟩), .pointer (some ⟨bk7, 0, none⟩)]) rfl rfl rfl rfl ?_
 have B13 := (B4.kx u10)
 refine x_c func82 rfl rfl (containsI_c (out1 lo hi) 134 [.pointer (some ⟨bk2, 0, none⟩), .pointer (some ⟨bk7, 0, none⟩)] xs ao b o cap _ own134 (fun x _ w u => within1_cK lo hi x bk2 bk7 _ _ w (B13.keep u (fun h => h)) (B9.keep u (fun h => h))) (hs.keep (((Upd.refl (fun _ => False) w0).nx u5).nx u10) (fun _ h => h)) hl) ?_
 rintro _ w15 ⟨rfl, u16⟩ zu16
 refine go ?_
 refine f_1 results69 ?_
 exact ⟨by rw [not_any_out], u_d⟩
theorem within4_v (lo hi m n q r : Int) (b : Nat) (t : TypeId) (w : World) (h : Blk w b t [.int .i64 m, .int .i64 n, .int .i64 q, .int .i64 r]) :
    CallsV Tryz.prog 69 [.int .i64 lo, .int .i64 hi, .slice (some ⟨b, 0, none⟩) 4 4] w (fun v w' => v = .bool (decide ((lo ≤ m ∧ m ≤ hi) ∧ (lo ≤ n ∧ n ≤ hi) ∧ (lo ≤ q ∧ q ≤ hi) ∧ (lo ≤ r ∧ r ≤ hi))) ∧ Ext w w') :=
  (within_cK lo hi [m, n, q, r] _ b 0 4 w (SlI.own (xs := [m, n, q, r]) h) (by simp)).mono fun v w' ⟨e, u⟩ => ⟨by rw [e]; simp, u⟩
theorem within5_v (lo hi m n q r s : Int) (b : Nat) (t : TypeId) (w : World) (h : Blk w b t [.int .i64 m, .int .i64 n, .int .i64 q, .int .i64 r, .int .i64 s]) :
    CallsV Tryz.prog 69 [.int .i64 lo, .int .i64 hi, .slice (some ⟨b, 0, none⟩) 5 5] w (fun v w' => v = .bool (decide ((lo ≤ m ∧ m ≤ hi) ∧ (lo ≤ n ∧ n ≤ hi) ∧ (lo ≤ q ∧ q ≤ hi) ∧ (lo ≤ r ∧ r ≤ hi) ∧ (lo ≤ s ∧ s ≤ hi))) ∧ Ext w w') :=
  (within_cK lo hi [m, n, q, r, s] _ b 0 5 w (SlI.own (xs := [m, n, q, r, s]) h) (by simp)).mono fun v w' ⟨e, u⟩ => ⟨by rw [e]; simp, u⟩
theorem Check_cK (r : Rul) (w0 : World) :
    CallsV Tryz.prog 116 [.agg #[.int .i64 r.rest, .int .i64 r.span, .int .i64 r.work, .int .i64 r.week, .int .i64 r.ww]] w0 (fun v w' => v = .int .i64 (chkR r) ∧ Ext w0 w') := by
 refine f_n func116 ?_
 refine go ?_
 refine x_b fun bk2 w3 ebk2 sbk2 B4 u5 => ?_
 refine go ?_
 refine x_l fun bk9 w10 ebk9 sbk9 B11 u12 => ?_
 refine x_c func69 rfl rfl (within5_v 1 20160 r.rest r.span r.work r.week r.ww _ _ _ B11) ?_
 rintro _ w15 ⟨rfl, u16⟩ zu16
 refine go ?_
 refine q_p (fun g15 => ?_) fun g15 => ?_
 ·
  refine go ?_
  refine f_1 results116 ?_
  exact ⟨congrArg (Value.int .i64) (by unfold chkR okRul; simp only [decide_eq_true_eq]; split <;> first | rfl | omega), u_d⟩
 refine go ?_
 refine f_1 results116 ?_
 exact ⟨congrArg (Value.int .i64) (by unfold chkR okRul; simp only [decide_eq_true_eq]; split <;> first | rfl | omega), u_d⟩
theorem isDuty_c (d : Dty) (w0 : World) :
    CallsV Tryz.prog 185 [.agg #[.int .i64 d.bl, .int .i64 d.bh, .int .i64 d.el, .int .i64 d.eh]] w0 (fun v w' => v = .bool (okDty d) ∧ Ext w0 w') := by
 refine f_n func185 ?_
 refine go ?_
 refine x_b fun bk2 w3 ebk2 sbk2 B4 u5 => ?_
 refine go ?_
 refine x_l fun bk8 w9 ebk8 sbk8 B10 u11 => ?_
 refine x_c func69 rfl rfl (within4_v 0 20160 d.bl d.bh d.el d.eh _ _ _ B10) ?_
 rintro _ w14 ⟨rfl, u15⟩ zu15
 refine go ?_
 refine t_splitp 17 rfl (fun g17 => ?_) (fun g17 => ?_)
 ·
  refine go ?_
  refine t_splitp 26 rfl (fun g26 => ?_) (fun g26 => ?_)
  ·
   refine go ?_
   refine t_splitp 35 rfl (fun g35 => ?_) (fun g35 => ?_)
   ·
    refine go ?_
    refine f_1 results185 ?_
    exact ⟨congrArg Value.bool (by rw [Bool.eq_iff_iff]; simp [okDty] <;> omega), u_d⟩
   refine go ?_
   refine f_1 results185 ?_
   exact ⟨congrArg Value.bool (by rw [Bool.eq_iff_iff]; simp [okDty] <;> omega), u_d⟩
  refine go ?_
  refine f_1 results185 ?_
  exact ⟨congrArg Value.bool (by rw [Bool.eq_iff_iff]; simp [okDty] <;> omega), u_d⟩
 refine go ?_
 refine f_1 results185 ?_
 exact ⟨congrArg Value.bool (by rw [Bool.eq_iff_iff]; simp [okDty] <;> omega), u_d⟩
theorem badDty_c (d : Dty) (w0 : World) :
    CallsV Tryz.prog 189 [.agg #[.int .i64 d.bl, .int .i64 d.bh, .int .i64 d.el, .int .i64 d.eh]] w0 (fun v w' => v = .bool (!okDty d) ∧ Ext w0 w') := by
 refine f_n func189 ?_
 refine go ?_
 refine x_b fun bk2 w3 ebk2 sbk2 B4 u5 => ?_
 refine go ?_
 refine x_c func185 rfl rfl (isDuty_c d _) ?_
 rintro _ w9 ⟨rfl, u10⟩ zu10
 refine go ?_
 refine f_1 results189 ?_
 exact ⟨rfl, u_d⟩
theorem checkDuties_c (l : List Dty) (al : Option Addr) (bl ol cl : Nat) (w0 : World) (hl : Sl encDty 4 w0 al bl ol l) (hll : l.length ≤ 1000000) :
    CallsV Tryz.prog 126 [.slice al l.length cl] w0 (fun v w' => v = .int .i64 (chkD l) ∧ Ext w0 w') := by
 refine f_n func126 ?_
 refine go ?_
 refine q_p (fun g3 => ?_) fun g3 => ?_
 ·
  refine go ?_
  refine f_1 results126 ?_
  exact ⟨congrArg (Value.int .i64) (by unfold chkD; rw [if_pos (by omega)]), u_d⟩
 refine go ?_
 refine x_c func188 rfl rfl (containsD_c encDty (fun _ => rfl) (fun x => !okDty x) 189 [] l al bl ol cl _ own189 (fun x _ w _ => badDty_c x w) hl hll) ?_
 rintro _ w7 ⟨rfl, u8⟩ zu8
 refine go ?_
 refine q_b (fun g7 => ?_) fun g7 => ?_
 ·
  refine go ?_
  refine f_1 results126 ?_
  exact ⟨congrArg (Value.int .i64) (by unfold chkD; rw [if_neg (by omega), if_pos g7]), u_d⟩
 refine go ?_
 refine f_1 results126 ?_
 exact ⟨congrArg (Value.int .i64) (by unfold chkD; rw [if_neg (by omega), if_neg (by simp [g7])]), u_d⟩
theorem check_c (r : Rul) (l : List Dty) (al : Option Addr) (bl ol cl : Nat) (w0 : World) (hl : Sl encDty 4 w0 al bl ol l) (hll : l.length ≤ 1000000) :
    CallsV Tryz.prog 60 [.agg #[.int .i64 r.rest, .int .i64 r.span, .int .i64 r.work, .int .i64 r.week, .int .i64 r.ww], .slice al l.length cl] w0 (fun v w' => v = .int .i64 (chkRD r l) ∧ Ext w0 w') := by
 refine f_n func60 ?_
 refine go ?_
 refine x_b fun bk2 w3 ebk2 sbk2 B4 u5 => ?_
 refine go ?_
 refine x_c func116 rfl rfl (Check_cK r _) ?_
 rintro _ w10 ⟨rfl, u11⟩ zu11
 refine go ?_
 refine q_p (fun g9 => ?_) fun g9 => ?_
 ·
  refine go ?_
  refine f_1 results60 ?_
  exact ⟨congrArg (Value.int .i64) (by unfold chkRD; rw [if_pos g9]), u_d⟩
 refine go ?_
 refine x_c func126 rfl rfl (checkDuties_c l al bl ol cl _ (hl.keep (((Upd.refl (fun _ => False) w0).nx u5).nx u11) (fun _ h => h)) hll) ?_
 rintro _ w18 ⟨rfl, u19⟩ zu19
 refine go ?_
 refine f_1 results60 ?_
 exact ⟨congrArg (Value.int .i64) (by unfold chkRD; rw [if_neg g9]), u_d⟩
theorem longest_c (d : Dty) (w0 : World) :
    CallsV Tryz.prog 65 [.agg #[.int .i64 d.bl, .int .i64 d.bh, .int .i64 d.el, .int .i64 d.eh]] w0 (fun v w' => v = .agg (encSp (lngS d)).toArray ∧ Ext w0 w') := by
 refine f_n func65 ?_
 refine go ?_
 refine x_b fun bk2 w3 ebk2 sbk2 B4 u5 => ?_
 refine x_n fun bk7 w8 ebk7 sbk7 B9 u10 => ?_
 refine go ?_
 refine x_s fun w13 sw13 B15 u14 => ?_
 refine go ?_
 refine f_ret1 (v := .agg #[.int .i64 d.bl, .int .i64 d.eh]) results65 ⟨_, _, rfl, run_loadVarN (vs := [.int .i64 d.bl, .int .i64 d.eh]) isAgg180 sizeOf180 rfl (B15.at.sub 0 2)⟩ ?_
 exact ⟨rfl, u_d⟩
theorem shortest_c (d : Dty) (w0 : World) :
    CallsV Tryz.prog 63 [.agg #[.int .i64 d.bl, .int .i64 d.bh, .int .i64 d.el, .int .i64 d.eh]] w0 (fun v w' => v = .agg (encSp (shtS d)).toArray ∧ Ext w0 w') := by
 refine f_n func63 ?_
 refine go ?_
 refine x_b fun bk2 w3 ebk2 sbk2 B4 u5 => ?_
 refine x_n fun bk7 w8 ebk7 sbk7 B9 u10 => ?_
 refine go ?_
 refine x_s fun w13 sw13 B15 u14 => ?_
 refine go ?_
 refine f_ret1 (v := .agg #[.int .i64 d.bh, .int .i64 d.el]) results63 ⟨_, _, rfl, run_loadVarN (vs := [.int .i64 d.bh, .int .i64 d.el]) isAgg180 sizeOf180 rfl (B15.at.sub 0 2)⟩ ?_
 exact ⟨rfl, u_d⟩
theorem work_c (s : Sp) (w0 : World) (hs : OkSp s) :
    CallsV Tryz.prog 144 [.agg #[.int .i64 s.b, .int .i64 s.e]] w0 (fun v w' => v = .int .i64 (s.e - s.b) ∧ Ext w0 w') := by
 unfold OkSp at hs
 refine f_n func144 ?_
 refine go ?_
 refine x_b fun bk2 w3 ebk2 sbk2 B4 u5 => ?_
 refine go ?_
 refine f_1 results144 ?_
 exact ⟨rfl, u_d⟩
theorem in_c (s : Sp) (a b : Int) (w0 : World) (hs : OkSp s) (ha : -100000 ≤ a ∧ a ≤ 100000) (hb : -100000 ≤ b ∧ b ≤ 100000) :
    CallsV Tryz.prog 132 [.agg #[.int .i64 s.b, .int .i64 s.e], .int .i64 a, .int .i64 b] w0 (fun v w' => v = .int .i64 (inW s a b) ∧ Ext w0 w') := by
 unfold OkSp at hs
 refine f_n func132 ?_
 refine go ?_
 refine x_b fun bk2 w3 ebk2 sbk2 B4 u5 => ?_
 refine go ?_
 refine t_min rfl rfl rfl rfl ?_
 refine go ?_
 refine t_max rfl rfl rfl rfl ?_
 refine go ?_
 refine t_max rfl rfl rfl rfl ?_
 refine go ?_
 refine f_1 results132 ?_
 exact ⟨rfl, u_d⟩

end Go.Proofs.YtclinbbghnebaaaGreat
namespace Go.Proofs.YtclinbbghnebaaaGreat
open Go Go.RowKit Go.Proofs.Tryz
set_option maxRecDepth 10000
theorem search_cK (l : List Sp) (al : Option Addr) (bl ol cl : Nat) (s : Sp) (w0 : World) (hl : Sl encSp 2 w0 al bl ol l) (hll : l.length ≤ 100000) (hs : Srt l) :
    CallsV Tryz.prog 129 [.slice al l.length cl, .agg #[.int .i64 s.b, .int .i64 s.e], .func (.func 128) #[] #[]] w0 (fun v w' => (∃ (k : Nat) (b : Bool), v = .tuple #[.int .i64 (k : Int), .bool b] ∧ k ≤ l.length ∧ (∀ j, j < k → LtS (nth l j) s) ∧ (k < l.length → ¬ LtS (nth l k) s)) ∧ Ext w0 w') := by
 refine f_n func129 ?_
 refine go ?_
 refine x_b fun bk2 w3 ebk2 sbk2 B4 u5 => ?_
 refine go ?_
 refine x_l2 (fun _ => False) [0, 2, 4, 8] (fun (i : Nat) (j : Nat) => [(9, .int .i64 (i : Int)), (10, .int .i64 (j : Int))]) (fun i j w => (i ≤ j) ∧ (j ≤ l.length) ∧ (0 < i → LtS (nth l (i - 1)) s) ∧ (j < l.length → ¬ LtS (nth l j) s)) (fun i j => j - i) 0 l.length ⟨(Nat.zero_le _), (Nat.le_refl _), (fun h => absurd h (Nat.lt_irrefl _)), (fun h => absurd h (Nat.lt_irrefl _))⟩ ?_
 rintro i j w11 ⟨hij, hjl, hi, hj⟩ u12 zu12 K10 hK10
 have E13 := Sc.mk (((Upd.refl (fun _ => False) w0).nx u5).nx u12)
 refine go ?_
 refine q_p (fun g17 => ?_) fun g17 => ?_
 ·
  refine go ?_
  refine t_conv underlying3 underlying213 rfl rfl rfl (IntWalk.u64_in _ (by omega)) (t_shr1 rfl rfl rfl rfl (by omega) (t_conv underlying213 underlying3 rfl rfl rfl (IntWalk.i64_in _ (by omega)) ?_))
  refine go ?_
  refine c_drawnM follows (fun _ => False) (OTl [0, 2, 4, 6, 8, 10, 13, 14]) (by kernel_rfl) fun w18 u19 => ?_
  have zu19 := u19.size
  refine go ?_
  refine y_i ((i + j) / 2) (hl.keep (E13.u.nx u19) (fun _ h => h)) (fun _ => ?_) (hj := (by omega))
  refine go ?_
  refine x_c func128 rfl rfl (compare_c (nth l ((i + j) / 2)) s _) ?_
  rintro _ w23 ⟨⟨rfl, _⟩, u24⟩ zu24
  refine go ?_
  refine q_p (fun g31 => ?_) fun g31 => ?_
  ·
   refine go ?_
   exact hK10 ((i + j) / 2 + 1) j ⟨(by show ((i + j) / 2) + 1 ≤ j; omega), (by omega), (fun _ => by show LtS (nth l (((i + j) / 2) + 1 - 1)) s; rw [Nat.add_sub_cancel]; exact cmp_neg.1 g31), hj⟩ (hs := by exact ⟨(congrArg (fun z => some (Value.int .i64 z)) (by omega)), (congrArg (fun z => some (Value.int .i64 z)) (by omega)), rfl, rfl, rfl, rfl, trivial⟩)
  refine go ?_
  exact hK10 i ((i + j) / 2) ⟨(by omega), (by omega), hi, (fun _ => fun h => g31 (cmp_neg.2 h))⟩ (hs := by exact ⟨(congrArg (fun z => some (Value.int .i64 z)) (by omega)), (congrArg (fun z => some (Value.int .i64 z)) (by omega)), rfl, rfl, rfl, rfl, trivial⟩)
 refine go ?_
 refine c_drawnM follows (fun _ => False) (OTl [0, 2, 4, 6, 8, 10, 12, 14, 16, 18, 20, 23, 24, 26, 28, 30]) (by kernel_rfl) fun w28 u29 => ?_
 have zu29 := u29.size
 refine go ?_
 refine y_splitp 39 rfl (fun g39 => ?_) (fun g39 => ?_)
 ·
  refine go ?_
  refine y_i i (hl.keep (E13.u.nx u29) (fun _ h => h)) (fun _ => ?_)
  refine go ?_
  refine x_c func128 rfl rfl (compare_c (nth l i) s _) ?_
  rintro _ w33 ⟨⟨rfl, _⟩, u34⟩ zu34
  refine go ?_
  refine f_ret2 (v1 := .int .i64 (i : Int)) (v2 := .bool (decide ((cmpS (nth l i) s) = 0))) results129 rfl rfl ?_
  have hij2 : i = j := by omega
  subst hij2
  exact ⟨⟨i, _, rfl, hjl, srt_below hs hjl hi, hj⟩, u_d⟩
 refine go ?_
 refine f_ret2 (v1 := .int .i64 (i : Int)) (v2 := .bool false) results129 rfl rfl ?_
 have hij2 : i = j := by omega
 subst hij2
 exact ⟨⟨i, _, rfl, hjl, srt_below hs hjl hi, hj⟩, u_d⟩
theorem clone_c (l : List Sp) (al : Option Addr) (bl ol cl : Nat) (w0 : World) (hl : Sl encSp 2 w0 al bl ol l) (hll : l.length ≤ 100000) (hpos : 0 < w0.heap.size) :
    CallsV Tryz.prog 131 [.slice al l.length cl] w0 (fun v w' => (∃ ao g cp, v = .slice ao (List.length l) cp ∧ Acc encSp 2 180 w0.heap.size w' ao g cp l) ∧ Ext w0 w') := by
 refine f_n func131 ?_
 refine go ?_
 refine t_nilS underlying175 rfl rfl rfl rfl ?_
 refine go ?_
 refine q_b (fun g4 => ?_) fun g4 => ?_
 ·
  refine go ?_
  refine f_1 results131 ?_
  have hl0 : l = [] := List.eq_nil_of_length_eq_zero (by
    rcases Nat.eq_zero_or_pos l.length with h | h
    · exact h
    · rw [hl.addr h] at g4; cases g4)
  exact ⟨⟨none, 0, 0, by rw [hl0]; rfl, by rw [hl0]; exact Acc.nil _ _ _ _ _ hpos (by omega)⟩, u_d⟩
 refine go ?_
 refine x_l fun bk6 w7 ebk6 sbk6 B8 u9 => ?_
 refine go ?_
 refine t_copyE (enc := encSp) (z := .agg #[.int .i64 0, .int .i64 0]) (bytes := 16) (k := 2) (ys := l) underlying175 (by kernel_rfl) rfl (by decide) (fun _ => rfl) (by intro x; simp [encSp, Value.oneCell']) rfl rfl rfl rfl B8 (hl.keep ((Upd.refl (fun _ => False) w0).nx u9) (fun _ h => h)) (by omega) (by decide) (fun ao1 g1 c1 w11 A13 u12 ge1 => ?_)
 have zu12 := u12.size
 refine go ?_
 refine f_1 results131 ?_
 obtain ⟨g9, ha9⟩ := Acc.lower (base' := w0.heap.size) A13 (by omega) hpos
 exact ⟨⟨ao1, g9, c1, rfl, ha9⟩, u_d⟩
set_option maxHeartbeats 4000000 in
theorem insert_c (l : List Sp) (ao : Option Addr) (gb cp base k bv : Nat) (s : Sp) (w0 : World) (ha : Acc encSp 2 180 base w0 ao gb cp l) (hk : k ≤ l.length) (hll : l.length ≤ 100000) (hbs : base ≤ w0.heap.size) (hb : Blk w0 bv 180 (encSp s)) (hvg0 : base ≤ gb → bv ≠ gb) :
    CallsV Tryz.prog 130 [.slice ao l.length cp, .int .i64 (k : Int), .slice (some ⟨bv, 0, none⟩) 1 1] w0 (fun v w' => (∃ ao' g' cp', v = .slice ao' (List.length (l.take k ++ s :: l.drop k)) cp' ∧ Acc encSp 2 180 base w' ao' g' cp' (l.take k ++ s :: l.drop k)) ∧ Upd (fun i => i = gb ∧ base ≤ i) w0 w') := by
 have hcl := ha.cap_le
 have hgl := ha.lt
 have hbl := hb.lt
 refine f_n func130 ?_
 refine go ?_
 refine t_sliceFrom (k) underlying175 sizeOf180 rfl rfl rfl rfl rfl hk hcl ?_
 refine go ?_
 refine q_p (fun g22 => ?_) fun g22 => ?_
 ·
  refine go ?_
  refine t_append2 (z := .agg #[.int .i64 0, .int .i64 0]) (bytes := 16) (k := 2) (base := base) s underlying175 underlying174 (by kernel_rfl) rfl (by decide) (fun _ => rfl) (by intro x; simp [encSp, Value.oneCell']) rfl rfl rfl rfl ha hb (by omega) (by omega) (by decide) (fun ao10 gb11 cp12 w13 A14 u15 gegb11 lngb11 => ?_)
  have zu15 := u15.size
  have lt_gb11 := A14.lt
  refine go ?_
  refine f_1 results130 ?_
  have hxe : (l.take k ++ s :: l.drop k) = l ++ [s] := by rw [show k = l.length by omega, List.take_length, List.drop_length]
  exact ⟨⟨ao10, gb11, cp12, by rw [hxe], by rw [hxe]; exact A14⟩, u_d⟩
 have hkl : k < l.length := by omega
 obtain ⟨hao, hbg, hlc, hcM0, cs0, hB0, hB0l, hB0t⟩ := Acc.raw ha (.inr (by omega))
 subst hao
 have hvg : bv ≠ gb := hvg0 hbg
 have hAtk : At w0 gb 0 ((l.take k).flatMap encSp) := by
   have h9 := (ha.sl (fun _ => rfl)).cellsFrom (k := 2) (by decide) (fun _ => rfl) 0 k
   rw [List.drop_zero, Nat.zero_add, Nat.zero_mul] at h9
   exact h9
 have hgl0 := hB0.lt
 refine go ?_
 refine t_cap underlying175 rfl rfl rfl rfl ?_
 refine go ?_
 refine q_p (fun g31 => ?_) fun g31 => ?_
 ·
  refine go ?_
  refine t_sliceTo (k) underlying175 sizeOf180 rfl rfl rfl rfl rfl (by omega) (t_same 34 (v := .slice (some ⟨gb, 0, none⟩) k cp) rfl (by rw [subAddr_some (by omega)]) ?_)
  refine go ?_
  refine t_appZ (cs := (l.take k).flatMap encSp) (m := l.length + 1 - k) (n := l.length + 1) (off := 0) (z := .agg #[.int .i64 0, .int .i64 0]) (bytes := 16) (k := 2) underlying175 underlying3 (by kernel_rfl) rfl (by decide) rfl rfl rfl rfl (by omega) (by omega) (by omega) (by omega) (by rw [flatMap_len (k := 2) (fun _ => rfl), List.length_take]; omega) hAtk (by omega) (by decide) (fun cN w20 zs hcN hcM hzl B22 u21 => ?_)
  have zu21 := u21.size
  obtain ⟨C0, hC0⟩ : ∃ C, (l.take k).flatMap encSp ++ zs = C := ⟨_, rfl⟩
  rw [hC0] at B22
  have hlN := B22.lt
  have hCl : C0.length = cN * 2 := by rw [← hC0, List.length_append, hzl, flatMap_len (k := 2) (fun _ => rfl), List.length_take]; omega
  have hCt : C0.take (k * 2) = (l.take k).flatMap encSp := by rw [← hC0, List.take_left' (by rw [flatMap_len (k := 2) (fun _ => rfl), List.length_take]; omega)]
  refine go ?_
  refine t_sliceFrom (k) underlying175 sizeOf180 rfl rfl rfl rfl (by omega) (by omega) (by omega) (t_same 43 (v := .slice (some ⟨w0.heap.size, 0 + k * 2, none⟩) ((l.length + 1) - k) (cN - k)) rfl (by rw [subAddr_some (by omega)]) ?_)
  refine go ?_
  have B28 := (hb.kx u21)
  refine t_copyB (k := 2) (cs := C0) (vs := (encSp s)) underlying175 sizeOf180 rfl rfl rfl rfl B22 (B28.at) (by show 2 = min _ _ * 2; omega) (by show 0 + k * 2 + 2 ≤ _; rw [hCl]; omega) (by intro v hv; simp [encSp] at hv; rcases hv with rfl | rfl <;> rfl) (fun w25 sw25 B27 u26 => ?_)
  have zu26 := u26.size
  obtain ⟨C1, hC1⟩ : ∃ C, lay C0 (0 + k * 2) (encSp s) = C := ⟨_, rfl⟩
  rw [hC1] at B27
  have lC1 : C1.length = C0.length := by rw [← hC1, lay_length]
  refine go ?_
  refine c_drawnM follows (fun i => i = w0.heap.size) (OTl [0, 2, 4, 6, 8, 10, 12, 14, 17]) (by kernel_rfl) fun w31 u32 => ?_
  have zu32 := u32.size
  refine go ?_
  refine y_sliceFrom ((k + 1)) underlying175 sizeOf180 rfl rfl rfl rfl (by omega) (by omega) (by omega) (y_same 50 (v := .slice (some ⟨w0.heap.size, 0 + (k + 1) * 2, none⟩) ((l.length + 1) - (k + 1)) (cN - (k + 1))) rfl (by rw [subAddr_some (by omega)]) ?_)
  refine go ?_
  refine y_sliceFrom (k) underlying175 sizeOf180 rfl rfl rfl rfl (by omega) (by omega) (by omega) (y_same 53 (v := .slice (some ⟨gb, 0 + k * 2, none⟩) (l.length - k) (cp - k)) rfl (by rw [subAddr_some (by omega)]) ?_)
  refine go ?_
  have D37 := (((ha.keep u21 (fun _ h => h)).keep u26 (fun hb => show ¬ (gb = w0.heap.size) by first | omega | assumption)).keep u32 (fun _ h => h))
  refine t_copyB (k := 2) (cs := C1) (vs := ((l.drop k).flatMap encSp)) underlying175 sizeOf180 rfl rfl rfl rfl (B27.kx u32) (by have h9 := (D37.sl (fun _ => rfl)).cellsFrom (k := 2) (by decide) (fun _ => rfl) k (l.length - k); rwa [List.take_of_length_le (by rw [List.length_drop]; omega)] at h9) (by rw [flatMap_len (k := 2) (fun _ => rfl), List.length_drop]; omega) (by rw [flatMap_len (k := 2) (fun _ => rfl), List.length_drop]; rw [lC1, hCl]; omega) (by intro v hv; obtain ⟨x, _, hv⟩ := List.mem_flatMap.1 hv; simp [encSp] at hv; rcases hv with rfl | rfl <;> rfl) (fun w34 sw34 B36 u35 => ?_)
  have zu35 := u35.size
  obtain ⟨C2, hC2⟩ : ∃ C, lay C1 (0 + (k + 1) * 2) ((l.drop k).flatMap encSp) = C := ⟨_, rfl⟩
  rw [hC2] at B36
  have lC2 : C2.length = C1.length := by rw [← hC2, lay_length]
  refine go ?_
  refine f_1 results130 ?_
  have hln : (l.take k ++ s :: l.drop k).length = l.length + 1 := by rw [List.length_append, List.length_cons, List.length_take, List.length_drop]; omega
  refine ⟨⟨some ⟨w0.heap.size, 0, none⟩, w0.heap.size, cN, by rw [hln], Acc.ofRaw (cs := C2) B36 (Nat.le_trans hbs (by omega)) (by rw [hln]; omega) hcM (by rw [lC2, lC1]; exact hCl) ?_⟩, u_d⟩
  rw [hln]
  have h9 := ins_rawA (k := 2) (s := s) (fun _ => rfl) rfl hkl (by rw [hCl]; omega) hCt
  rw [← hC2, ← hC1, Nat.zero_add, Nat.zero_add]
  exact h9
 refine go ?_
 refine t_sliceTo (l.length + 1) underlying175 sizeOf180 rfl rfl rfl rfl (by omega) (by omega) (t_same 60 (v := .slice (some ⟨gb, 0, none⟩) (l.length + 1) cp) rfl (by rw [subAddr_some (by omega)]) ?_)
 refine go ?_
 refine t_sliceFrom ((k + 1)) underlying175 sizeOf180 rfl rfl rfl rfl (by omega) (by omega) (by omega) (t_same 66 (v := .slice (some ⟨gb, 0 + (k + 1) * 2, none⟩) ((l.length + 1) - (k + 1)) (cp - (k + 1))) rfl (by rw [subAddr_some (by omega)]) (t_apart (tS := 174) (tR := 4) (e := 180) func191 (by kernel_rfl) (by kernel_rfl) (by kernel_rfl) (by kernel_rfl) underlying174 sizeOf180 rfl rfl rfl rfl rfl hb hB0 hvg (by rw [hB0l]; omega) ?_))
 refine go ?_
 refine c_drawnM follows (fun i => i = gb) (OTl [0, 2, 4, 6, 8, 10, 12, 14, 17]) (by kernel_rfl) fun w44 u45 => ?_
 have zu45 := u45.size
 refine go ?_
 refine y_sliceFrom ((k + 1)) underlying175 sizeOf180 rfl rfl rfl rfl (by omega) (by omega) (by omega) (y_same 73 (v := .slice (some ⟨gb, 0 + (k + 1) * 2, none⟩) ((l.length + 1) - (k + 1)) (cp - (k + 1))) rfl (by rw [subAddr_some (by omega)]) ?_)
 refine go ?_
 refine y_sliceFrom (k) underlying175 sizeOf180 rfl rfl rfl rfl (by omega) (by omega) (by omega) (y_same 76 (v := .slice (some ⟨gb, 0 + k * 2, none⟩) ((l.length + 1) - k) (cp - k)) rfl (by rw [subAddr_some (by omega)]) ?_)
 refine go ?_
 have D50 := (ha.keep u45 (fun _ h => h))
 refine t_copyB (k := 2) (cs := cs0) (vs := ((l.drop k).flatMap encSp)) underlying175 sizeOf180 rfl rfl rfl rfl (hB0.kx u45) (by have h9 := (D50.sl (fun _ => rfl)).cellsFrom (k := 2) (by decide) (fun _ => rfl) k (l.length - k); rwa [List.take_of_length_le (by rw [List.length_drop]; omega)] at h9) (by rw [flatMap_len (k := 2) (fun _ => rfl), List.length_drop]; omega) (by rw [flatMap_len (k := 2) (fun _ => rfl), List.length_drop]; rw [hB0l]; omega) (by intro v hv; obtain ⟨x, _, hv⟩ := List.mem_flatMap.1 hv; simp [encSp] at hv; rcases hv with rfl | rfl <;> rfl) (fun w47 sw47 B49 u48 => ?_)
 have zu48 := u48.size
 obtain ⟨C1, hC1⟩ : ∃ C, lay cs0 (0 + (k + 1) * 2) ((l.drop k).flatMap encSp) = C := ⟨_, rfl⟩
 rw [hC1] at B49
 have lC1 : C1.length = cs0.length := by rw [← hC1, lay_length]
 refine go ?_
 refine t_sliceFrom (k) underlying175 sizeOf180 rfl rfl rfl rfl (by omega) (by omega) (by omega) (t_same 80 (v := .slice (some ⟨gb, 0 + k * 2, none⟩) ((l.length + 1) - k) (cp - k)) rfl (by rw [subAddr_some (by omega)]) ?_)
 refine go ?_
 have B56 := ((hb.kx u45).keep u48 (by omega))
 refine t_copyB (k := 2) (cs := C1) (vs := (encSp s)) underlying175 sizeOf180 rfl rfl rfl rfl B49 (B56.at) (by show 2 = min _ _ * 2; omega) (by show 0 + k * 2 + 2 ≤ _; rw [lC1, hB0l]; omega) (by intro v hv; simp [encSp] at hv; rcases hv with rfl | rfl <;> rfl) (fun w53 sw53 B55 u54 => ?_)
 have zu54 := u54.size
 obtain ⟨C2, hC2⟩ : ∃ C, lay C1 (0 + k * 2) (encSp s) = C := ⟨_, rfl⟩
 rw [hC2] at B55
 have lC2 : C2.length = C1.length := by rw [← hC2, lay_length]
 refine go ?_
 refine f_1 results130 ?_
 have hln : (l.take k ++ s :: l.drop k).length = l.length + 1 := by rw [List.length_append, List.length_cons, List.length_take, List.length_drop]; omega
 refine ⟨⟨some ⟨gb, 0, none⟩, gb, cp, by rw [hln], Acc.ofRaw (cs := C2) B55 (hbg) (by rw [hln]; omega) hcM0 (by rw [lC2, lC1]; exact hB0l) ?_⟩, u_d⟩
 rw [hln]
 have h9 := ins_rawB (k := 2) (s := s) (fun _ => rfl) rfl hkl (by rw [hB0l]; omega) (raw_take (k := 2) (fun _ => rfl) hB0t (by omega))
 rw [← hC2, ← hC1, Nat.zero_add, Nat.zero_add]
 exact h9

end Go.Proofs.YtclinbbghnebaaaGreat
namespace Go.Proofs
open Go.Shelf
def YtclinbbghnebaaaGreat.sortR_ren : Go.Shelf.Ren := ⟨fun | 14 => 190 | 20 => 231 | 21 => 232 | 22 => 233 | 23 => 234 | 24 => 235 | 25 => 236 | 26 => 237 | 27 => 238 | 46 => 278 | 47 => 204 | 48 => 205 | 49 => 279 | 50 => 280 | 15 => 92 | 57 => 296 | 28 => 158 | 29 => 159 | n => n, fun | 24 => 180 | 22 => 174 | 3 => 3 | 25 => 278 | 4 => 4 | 0 => 0 | 46 => 302 | 45 => 301 | 50 => 149 | 66 => 358 | 39 => 213 | 55 => 310 | 70 => 362 | 76 => 400 | 77 => 232 | 53 => 308 | 5 => 5 | 9 => 9 | n => n, fun | n => n⟩
theorem YtclinbbghnebaaaGreat.sortR : Go.Proofs.SlLaysF0.n14 Tryz.prog YtclinbbghnebaaaGreat.sortR_ren := {
  mixed := by kernel_rfl
  f14 := ⟨Tryz.f190.name, by decide, Tryz.func190.trans (congrArg some (by kernel_rfl))⟩
  f15 := Tryz.func92.trans (congrArg some (by kernel_rfl))
  f20 := ⟨Tryz.f231.name, by decide, Tryz.func231.trans (congrArg some (by kernel_rfl))⟩
  f21 := ⟨Tryz.f232.name, by decide, Tryz.func232.trans (congrArg some (by kernel_rfl))⟩
  f22 := ⟨Tryz.f233.name, by decide, Tryz.func233.trans (congrArg some (by kernel_rfl))⟩
  f23 := ⟨Tryz.f234.name, by decide, Tryz.func234.trans (congrArg some (by kernel_rfl))⟩
  f24 := ⟨Tryz.f235.name, by decide, Tryz.func235.trans (congrArg some (by kernel_rfl))⟩
  f25 := ⟨Tryz.f236.name, by decide, Tryz.func236.trans (congrArg some (by kernel_rfl))⟩
  f26 := ⟨Tryz.f237.name, by decide, Tryz.func237.trans (congrArg some (by kernel_rfl))⟩
  f27 := ⟨Tryz.f238.name, by decide, Tryz.func238.trans (congrArg some (by kernel_rfl))⟩
  f28 := Tryz.func158.trans (congrArg some (by kernel_rfl))
  f29 := Tryz.func159.trans (congrArg some (by kernel_rfl))
  f46 := ⟨Tryz.f278.name, by decide, Tryz.func278.trans (congrArg some (by kernel_rfl))⟩
  f47 := Tryz.func204.trans (congrArg some (by kernel_rfl))
  f48 := Tryz.func205.trans (congrArg some (by kernel_rfl))
  f49 := ⟨Tryz.f279.name, by decide, Tryz.func279.trans (congrArg some (by kernel_rfl))⟩
  f50 := ⟨Tryz.f280.name, by decide, Tryz.func280.trans (congrArg some (by kernel_rfl))⟩
  f57 := ⟨Tryz.f296.name, by decide, Tryz.func296.trans (congrArg some (by kernel_rfl))⟩
  t0 := Tryz.underlying0
  a0 := Tryz.isAgg0
  z0 := Tryz.sizeOf0
  v0 := Tryz.zeroValue0
  t3 := Tryz.underlying3
  a3 := Tryz.isAgg3
  z3 := Tryz.sizeOf3
  v3 := Tryz.zeroValue3
  t4 := Tryz.underlying4
  a4 := Tryz.isAgg4
  z4 := Tryz.sizeOf4
  v4 := Tryz.zeroValue4
  t5 := Tryz.underlying5
  a5 := Tryz.isAgg5
  z5 := Tryz.sizeOf5
  v5 := Tryz.zeroValue5
  t9 := Tryz.underlying9
  a9 := Tryz.isAgg9
  z9 := Tryz.sizeOf9
  v9 := Tryz.zeroValue9
  t22 := Tryz.underlying174
  a22 := Tryz.isAgg174
  z22 := Tryz.sizeOf174
  v22 := Tryz.zeroValue174
  t25 := Tryz.underlying278
  a25 := Tryz.isAgg278
  z25 := Tryz.sizeOf278
  v25 := Tryz.zeroValue278
  t39 := Tryz.underlying213
  a39 := Tryz.isAgg213
  z39 := Tryz.sizeOf213
  v39 := Tryz.zeroValue213
  t45 := Tryz.underlying301
  a45 := Tryz.isAgg301
  z45 := Tryz.sizeOf301
  v45 := Tryz.zeroValue301
  t46 := Tryz.underlying302
  a46 := Tryz.isAgg302
  z46 := Tryz.sizeOf302
  v46 := Tryz.zeroValue302
  t50 := Tryz.underlying149
  a50 := Tryz.isAgg149
  z50 := Tryz.sizeOf149
  v50 := Tryz.zeroValue149
  t53 := Tryz.underlying308
  a53 := Tryz.isAgg308
  z53 := Tryz.sizeOf308
  v53 := Tryz.zeroValue308
  t55 := Tryz.underlying310
  a55 := Tryz.isAgg310
  z55 := Tryz.sizeOf310
  v55 := Tryz.zeroValue310
  t66 := Tryz.underlying358
  a66 := Tryz.isAgg358
  z66 := Tryz.sizeOf358
  v66 := Tryz.zeroValue358
  t70 := Tryz.underlying362
  a70 := Tryz.isAgg362
  z70 := Tryz.sizeOf362
  v70 := Tryz.zeroValue362
  t76 := Tryz.underlying400
  a76 := Tryz.isAgg400
  z76 := Tryz.sizeOf400
  v76 := Tryz.zeroValue400
  t77 := Tryz.underlying232
  a77 := Tryz.isAgg232
  z77 := Tryz.sizeOf232
  v77 := Tryz.zeroValue232 }
end Go.Proofs
namespace Go.Proofs.YtclinbbghnebaaaGreat
open Go Go.RowKit Go.Proofs.Tryz
set_option maxRecDepth 10000

theorem cmpS_lt (x y : Sp) : ltOf cmpS x y = decide (LtS x y) := by
  unfold ltOf
  exact decide_eq_decide.2 cmp_neg
theorem cmpS_swo : Go.Sort.SWO (ltOf cmpS) where
  irrefl x := by rw [cmpS_lt]; simp [LtS]
  trans x y z h1 h2 := by rw [cmpS_lt, decide_eq_true_eq] at h1 h2 ⊢; unfold LtS at *; omega
  ntrans x y z h1 h2 := by rw [cmpS_lt, decide_eq_false_iff_not] at h1 h2 ⊢; unfold LtS at *; omega
theorem asc_srt {l : List Sp} (h : Asc cmpS l) : Srt l := by
  unfold Srt
  rw [List.pairwise_iff_getElem]
  intro i j hi hj hij
  have := h i j hij hj
  rw [cmp_neg, nth_eq hi, nth_eq hj] at this
  exact this
theorem own127 : Own Tryz.prog 127 := ⟨Tryz.f127, func127, by kernel_rfl, by kernel_rfl⟩
theorem own190 : Own Tryz.prog 190 := ⟨Tryz.f190, func190, by kernel_rfl, by kernel_rfl⟩
theorem compare_ok : CmpOk Tryz.prog 128 encSp cmpS := fun x y W => by
  refine Calls.mono (compare_c x y W) ?_
  rintro e w' ⟨v, rfl, ⟨rfl, hg⟩, _⟩
  exact ⟨rfl, hg.grow⟩
theorem sortR_c (xs : List Sp) (ao : Option Addr) (gb cp base : Nat) (w0 : World) (ha : Acc encSp 2 180 base w0 ao gb cp xs) (hl : xs.length ≤ 100000) :
    CallsV Tryz.prog 127 [.slice ao xs.length cp, .func (.func 128) #[] #[]] w0 (fun v w' => v = .tuple #[] ∧ Acc encSp 2 180 base w' ao gb cp (srtS xs) ∧ Upd (fun i => i = gb ∧ base ≤ i) w0 w') := by
 have hgl := ha.lt
 refine f_n func127 ?_
 refine go ?_
 refine t_conv underlying3 underlying213 rfl rfl rfl (IntWalk.u64_in _ (by omega)) (t_call own92 rfl rfl rfl rfl (len_c (ρ := YtclinbbghnebaaaGreat.sortR_ren) YtclinbbghnebaaaGreat.sortR xs.length (by omega) _) (fun v2 w3 r5 => ?_))
 obtain ⟨kL, rfl, hkL, u4⟩ := r5
 have zu4 := u4.size
 refine go ?_
 have D7 := (ha.keep u4 (fun _ h => h))
 refine t_call own190 rfl rfl rfl rfl (pdq_c (ρ := YtclinbbghnebaaaGreat.sortR_ren) YtclinbbghnebaaaGreat.sortR 2 (by decide) isAgg180 sizeOf180 encSp (fun _ => rfl) (by intro x; simp [encSp, Value.oneCell']) cmpS cmpS_swo 128 own128 compare_ok 180 base ao gb cp xs kL hkL _ D7 (by omega)) (fun v8 w9 r11 => ?_)
 obtain ⟨ys, hperm, hasc, hacY, u10, rfl⟩ := r11
 have zu10 := u10.size
 have lt_gb := hacY.lt
 refine go ?_
 refine f_ret0 results127 ?_
 exact ⟨rfl, by rw [← srt_eq (asc_srt hasc) hperm]; exact hacY, u_d⟩
theorem rosterL_c (l : List Dty) (al : Option Addr) (bl ol cl : Nat) (w0 : World) (hl : Sl encDty 4 w0 al bl ol l) (hll : l.length ≤ 100000) (hpos : 0 < w0.heap.size) :
    CallsV Tryz.prog 62 [.func (.func 65) #[] #[], .slice al l.length cl] w0 (fun v w' => (∃ ao g cp, v = .slice ao (List.length (srtS (l.map lngS))) cp ∧ Acc encSp 2 180 w0.heap.size w' ao g cp (srtS (l.map lngS))) ∧ Ext w0 w') := by
 refine f_n func62 ?_
 refine go ?_
 refine x_l5 (fun _ => False) [0, 7, 8] (fun (k : Nat) (ar : Option Addr) (gr : Nat) (cr : Nat) (rs : List Sp) => [(4, .slice ar rs.length cr), (9, .int .i64 (k : Int))]) (fun k ar gr cr rs w => (k ≤ l.length) ∧ (Acc encSp 2 180 w0.heap.size w ar gr cr rs) ∧ (rs = (l.take k).map lngS)) (fun k ar gr cr rs => l.length - k) 0 none 0 0 ([]) ⟨(Nat.zero_le _), (Acc.nil _ _ _ _ _ hpos (by omega)), rfl⟩ ?_
 rintro k ar gr cr rs w5 ⟨hk, hrA, hrs⟩ u6 zu6 K4 hK4
 have lt_gr := hrA.lt
 have hrl : rs.length = k := by rw [hrs, List.length_map, List.length_take]; omega
 refine go ?_
 refine q_p (fun g10 => ?_) fun g10 => ?_
 ·
  refine go ?_
  refine g_i k (hl.keep ((Upd.refl (fun _ => False) w0).nx u6) (fun _ h => h)) (fun _ => ?_)
  refine go ?_
  refine x_n fun bk13 w14 ebk13 sbk13 B15 u16 => ?_
  refine x_s fun w18 sw18 B20 u19 => ?_
  refine go ?_
  refine x_c func65 rfl rfl (longest_c (nth l k) _) ?_
  rintro _ w23 ⟨rfl, u24⟩ zu24
  refine x_l fun bk27 w28 ebk27 sbk27 B29 u30 => ?_
  have D32 := ((((hrA.keep u16 (fun _ h => h)).keep u19 (fun hb => show ¬ (gr = bk13) by first | omega | assumption)).keep u24 (fun _ h => h)).keep u30 (fun _ h => h))
  refine t_append (z := .agg #[.int .i64 0, .int .i64 0]) (bytes := 16) (k := 2) (base := w0.heap.size) (lngS (nth l k)) underlying175 (by kernel_rfl) rfl (by decide) (fun _ => rfl) (by intro x; simp [encSp, Value.oneCell']) rfl rfl rfl rfl D32 B29 (by omega) (by omega) (by decide) (fun ao33 gb34 cp35 w36 A37 u38 gegb34 lngb34 => ?_)
  have zu38 := u38.size
  have lt_gb34 := A37.lt
  refine go ?_
  exact hK4 (k + 1) ao33 gb34 cp35 (rs ++ [(lngS (nth l k))]) ⟨(by omega), A37, (by rw [hrs, take_nth (by omega), List.map_append]; rfl)⟩
 refine go ?_
 refine t_call own127 rfl rfl rfl rfl (sortR_c rs ar gr cr w0.heap.size _ hrA (by omega)) (fun v41 w42 r44 => ?_)
 obtain ⟨rfl, hacS, u43⟩ := r44
 have zu43 := u43.size
 have hfin : srtS rs = srtS (l.map lngS) := by rw [hrs, show k = l.length by omega, List.take_length]
 have lt_gr := hacS.lt
 refine go ?_
 refine f_1 results62 ?_
 exact ⟨⟨ar, gr, cr, by rw [← hfin, srt_len], by rw [← hfin]; exact hacS⟩, u_d⟩
theorem rosterS_c (l : List Dty) (al : Option Addr) (bl ol cl : Nat) (w0 : World) (hl : Sl encDty 4 w0 al bl ol l) (hll : l.length ≤ 100000) (hpos : 0 < w0.heap.size) :
    CallsV Tryz.prog 62 [.func (.func 63) #[] #[], .slice al l.length cl] w0 (fun v w' => (∃ ao g cp, v = .slice ao (List.length (srtS (l.map shtS))) cp ∧ Acc encSp 2 180 w0.heap.size w' ao g cp (srtS (l.map shtS))) ∧ Ext w0 w') := by
 refine f_n func62 ?_
 refine go ?_
 refine x_l5 (fun _ => False) [0, 7, 8] (fun (k : Nat) (ar : Option Addr) (gr : Nat) (cr : Nat) (rs : List Sp) => [(4, .slice ar rs.length cr), (9, .int .i64 (k : Int))]) (fun k ar gr cr rs w => (k ≤ l.length) ∧ (Acc encSp 2 180 w0.heap.size w ar gr cr rs) ∧ (rs = (l.take k).map shtS)) (fun k ar gr cr rs => l.length - k) 0 none 0 0 ([]) ⟨(Nat.zero_le _), (Acc.nil _ _ _ _ _ hpos (by omega)), rfl⟩ ?_
 rintro k ar gr cr rs w5 ⟨hk, hrA, hrs⟩ u6 zu6 K4 hK4
 have lt_gr := hrA.lt
 have hrl : rs.length = k := by rw [hrs, List.length_map, List.length_take]; omega
 refine go ?_
 refine q_p (fun g10 => ?_) fun g10 => ?_
 ·
  refine go ?_
  refine g_i k (hl.keep ((Upd.refl (fun _ => False) w0).nx u6) (fun _ h => h)) (fun _ => ?_)
  refine go ?_
  refine x_n fun bk13 w14 ebk13 sbk13 B15 u16 => ?_
  refine x_s fun w18 sw18 B20 u19 => ?_
  refine go ?_
  refine x_c func63 rfl rfl (shortest_c (nth l k) _) ?_
  rintro _ w23 ⟨rfl, u24⟩ zu24
  refine x_l fun bk27 w28 ebk27 sbk27 B29 u30 => ?_
  have D32 := ((((hrA.keep u16 (fun _ h => h)).keep u19 (fun hb => show ¬ (gr = bk13) by first | omega | assumption)).keep u24 (fun _ h => h)).keep u30 (fun _ h => h))
  refine t_append (z := .agg #[.int .i64 0, .int .i64 0]) (bytes := 16) (k := 2) (base := w0.heap.size) (shtS (nth l k)) underlying175 (by kernel_rfl) rfl (by decide) (fun _ => rfl) (by intro x; simp [encSp, Value.oneCell']) rfl rfl rfl rfl D32 B29 (by omega) (by omega) (by decide) (fun ao33 gb34 cp35 w36 A37 u38 gegb34 lngb34 => ?_)
  have zu38 := u38.size
  have lt_gb34 := A37.lt
  refine go ?_
  exact hK4 (k + 1) ao33 gb34 cp35 (rs ++ [(shtS (nth l k))]) ⟨(by omega), A37, (by rw [hrs, take_nth (by omega), List.map_append]; rfl)⟩
 refine go ?_
 refine t_call own127 rfl rfl rfl rfl (sortR_c rs ar gr cr w0.heap.size _ hrA (by omega)) (fun v41 w42 r44 => ?_)
 obtain ⟨rfl, hacS, u43⟩ := r44
 have zu43 := u43.size
 have hfin : srtS rs = srtS (l.map shtS) := by rw [hrs, show k = l.length by omega, List.take_length]
 have lt_gr := hacS.lt
 refine go ?_
 refine f_1 results62 ?_
 exact ⟨⟨ar, gr, cr, by rw [← hfin, srt_len], by rw [← hfin]; exact hacS⟩, u_d⟩

end Go.Proofs.YtclinbbghnebaaaGreat
namespace Go.Proofs.YtclinbbghnebaaaGreat
open Go Go.RowKit

/-- How a round ends that may leave. -/
def postL (B : Nat) (Z Zf : World → Prop) (W : World) : Exit → Act → World → Prop
  | .normal, _, W' => KeepsFrom B W W' ∧ Z W'
  | .ret, _, W' => KeepsFrom B W W' ∧ Zf W'
  | _, _, _ => False

/-- What an iterator is given: at each place where Y holds it may hand out the element; Z holds behind it, or it is told to end, and Zf holds; the loop's own blocks l and D are left alone. -/
structure HandsL {γ : Type} (P : Program) (l D : Nat) (enc : γ → Value) (Y Z Zf : γ → World → Prop) (R Rf : World → Prop) : Prop where
  keep : ∀ {W W' : World} {S : Nat → Prop}, R W → Upd S W W' → ¬ S l → ¬ S D → R W'
  keepf : ∀ {W W' : World} {S : Nat → Prop}, Rf W → Upd S W W' → ¬ S l → ¬ S D → Rf W'
  cell : ∀ {W : World} {b : Nat} {t : TypeId} {cs : List Value}, R W → Blk W b t cs → b ≠ l ∧ b ≠ D
  hand : ∀ x W, Y x W → R W → YieldAt Fence.wide 3 P l #[enc x] W fun e W' => (e = .returned (.bool true) ∧ Z x W' ∧ R W') ∨ (e = .returned (.bool false) ∧ Zf x W' ∧ Rf W')

section
variable {P : Program} {Q : Exit → Act → World → Prop} {N : Nat} {ds : List Deferred} {L : Slots} {w : World}

theorem c_rangeL {γ : Type} {go : Operand} {p : Nat} {assign body : Code} {gf : Nat} {lb : List Value} {enc : γ → Value} (ho : Own P gf)
    (hp : Nat.blt p N = true) (hg : ev L go = some (.func (.func gf) #[] lb.toArray))
    (Y Z Zf : γ → World → Prop) (E Ef : World → Prop) (hZo : Turned (w.heap.size + 1) Z) (hZfo : Turned (w.heap.size + 1) Zf) (hEo : Turned (w.heap.size + 1) (fun (_ : Unit) W => E W)) (hEfo : Turned (w.heap.size + 1) (fun (_ : Unit) W => Ef W))
    (hiter : ∀ (l D : Nat) (R Rf : World → Prop) (W : World), D = w.heap.size → l = w.heap.size + 1 → W.heap.size = w.heap.size + 2 → Ext w W → HandsL P l D enc Y Z Zf R Rf → R W →
      CallsV P gf (.func (.yield l) #[] #[] :: lb) W (fun _ W' => (E W' ∧ R W') ∨ (Ef W' ∧ Rf W')))
    {δ : Type} (La : γ → δ → Slots) (Y' : γ → δ → World → Prop) (hYo' : ∀ d, Turned (w.heap.size + 1) (fun x W => Y' x d W))
    (hassign : ∀ (l : Nat) (x : γ) (W : World) (K : Act → World → Prop), Y x W → (∀ d L' W', Sub (La x d) L' → Ext W W' → Y' x d W' → QK K N [] L' W') → WC (some l) P (Exit.then K (fun _ _ _ => False)) N [] assign ((p, enc x) :: L) W)
    (hbody : ∀ (l : Nat) (x : γ) (d : δ) (W : World), Y' x d W → WC (some l) P (postL w.heap.size (Z x) (Zf x) W) N [] body (La x d) W)
    (hleft : ∀ (D : Nat) (W : World), w.heap.size ≤ D → Ef W → W.heap[D]? = some (.deferred (some [])) → QK (Q .ret) N (mark D :: ds) L W)
    (hdone : ∀ (D : Nat) (W : World), w.heap.size ≤ D → E W → W.heap[D]? = some (.deferred (some [])) → QK (Q .normal) N (mark D :: ds) L W) :
    WC none P Q N ds (.rangeFunc go #[p] assign body) L w := by
  refine ⟨fun a ha => ?_⟩
  refine wpIn_rangeFunc (F := Fence.wide) (n := 3) fun fn hfn => ?_
  let rec_ : LoopState → Option Code → Loop := fun st pd => { state := st, pending := pd, fn, tmps := a.tmps, params := #[p], assign, body, defers := w.heap.size }
  have hsz : ((w.alloc (.deferred (some []))).alloc (.loop (rec_ .ready none))).heap.size = w.heap.size + 2 := by simp
  have hD1 : ((w.alloc (.deferred (some []))).alloc (.loop (rec_ .ready none))).heap[w.heap.size]? = some (.deferred (some [])) :=
    ((Upd.alloc (w.alloc (.deferred (some []))) (.loop (rec_ .ready none))).block _ (by simp) id).trans (World.alloc_heap_new w _)
  have hL1 : ((w.alloc (.deferred (some []))).alloc (.loop (rec_ .ready none))).heap[w.heap.size + 1]? = some (.loop (rec_ .ready none)) := by
    have := World.alloc_heap_new (w.alloc (.deferred (some []))) (.loop (rec_ .ready none)); rwa [World.size_alloc] at this
  have hE1 : Ext w ((w.alloc (.deferred (some []))).alloc (.loop (rec_ .ready none))) := (Upd.alloc _ _).trans (Upd.alloc _ _)
  refine ⟨w.heap.size + 1, [{ target := .collected w.heap.size, args := #[] }], (w.alloc (.deferred (some []))).alloc (.loop (rec_ .ready none)), { target := .fn (.func gf) lb.toArray, args := #[.func (.yield (w.heap.size + 1)) #[] #[]] }, (w.alloc (.deferred (some []))).alloc (.loop (rec_ .ready none)), gf,
    #[.func (.yield (w.heap.size + 1)) #[] #[]] ++ lb.toArray, (w.alloc (.deferred (some []))).alloc (.loop (rec_ .ready none)), ?_, ?_, fun _ _ => trivial, ?_, fun _ => by decide, ?_⟩
  · exact run_enterLoop_outer _ _ _ _ _
  · simp only [resolve, ha.ev hg]
    simp [go_sem]
  · simp [invoke, go_sem, ho.run]
  · have hH : HandsL P (w.heap.size + 1) w.heap.size enc Y Z Zf (fun W => W.heap[w.heap.size + 1]? = some (.loop (rec_ .ready none)) ∧ W.heap[w.heap.size]? = some (.deferred (some []))) (fun W => W.heap[w.heap.size + 1]? = some (.loop (rec_ .done (some .ret))) ∧ W.heap[w.heap.size]? = some (.deferred (some []))) := by
      refine ⟨fun {W W' S} h u h1 h2 => ⟨(u.block _ (lt_of_block h.1) h1).trans h.1, (u.block _ (lt_of_block h.2) h2).trans h.2⟩, fun {W W' S} h u h1 h2 => ⟨(u.block _ (lt_of_block h.1) h1).trans h.1, (u.block _ (lt_of_block h.2) h2).trans h.2⟩, fun {W b t cs} h hb => ⟨fun e => ?_, fun e => ?_⟩, ?_⟩
      · subst e; unfold Blk at hb; rw [h.1] at hb; cases hb
      · subst e; unfold Blk at hb; rw [h.2] at hb; cases hb
      rintro x W hy ⟨hl, hd⟩
      have hyl := run_yield (P := P) (args := #[enc x]) hl rfl
      refine ⟨fn, _, assign, body, hyl, roundIn_of_wpIn (F := Fence.wide) (n := 3) hfn ?_⟩
      have hk : Kn N [] ((p, enc x) :: L) { tmps := (#[p].zip #[enc x]).foldl (fun t (p, v) => t.setIfInBounds p v) a.tmps, defers := [] } := by
        have h1 : Kn N [] L { a with defers := [] } := ⟨ha.size, rfl, ha.get⟩
        have h2 := h1.put (enc x) hp
        refine ⟨by simpa [Act.put] using h2.size, rfl, fun k v hv => ?_⟩
        have := h2.get k v hv
        simpa [Act.put] using this
      refine hassign (w.heap.size + 1) x W _ hy (fun δ L' W hs hu hy' => ⟨fun a' ha' => ?_⟩) _ hk
      replace hl := (hu.block _ (lt_of_block hl) (fun h => h)).trans hl
      replace hd := (hu.block _ (lt_of_block hd) (fun h => h)).trans hd
      have hlt := lt_of_block hl
      refine ⟨_, run_beginRound hl rfl, ?_⟩
      have hl2 : (W.putObj (w.heap.size + 1) (.loop { rec_ .ready none with state := .busy })).heap[w.heap.size + 1]? = some (.loop { rec_ .ready none with state := .busy }) := World.putObj_heap_same hlt
      have hd2 : (W.putObj (w.heap.size + 1) (.loop { rec_ .ready none with state := .busy })).heap[w.heap.size]? = some (.deferred (some [])) := (World.putObj_heap_other (by omega)).trans hd
      refine wpIn_mono (hbody (w.heap.size + 1) x δ _ (hYo' _ _ _ _ hy' ⟨_, hl⟩ (Upd.putObj _ _ _)) a' (ha'.sub hs)) ?_
      rintro e a3 W3 hp3
      cases e with
      | normal =>
        obtain ⟨hk3, hz⟩ := hp3
        have hl3 := hk3.same _ _ (by omega) hl2 rfl
        have hd3 := hk3.same _ _ (Nat.le_refl _) hd2 rfl
        exact ⟨_, _, run_endRound none hl3, .inl ⟨rfl, hZo _ _ _ hz ⟨_, hl3⟩ (Upd.putObj _ _ _), World.putObj_heap_same (lt_of_block hl3), (World.putObj_heap_other (by omega)).trans hd3⟩⟩
      | ret =>
        obtain ⟨hk3, hz⟩ := hp3
        have hl3 := hk3.same _ _ (by omega) hl2 rfl
        have hd3 := hk3.same _ _ (Nat.le_refl _) hd2 rfl
        exact ⟨_, _, run_endRound (some .ret) hl3, .inr ⟨rfl, hZfo _ _ _ hz ⟨_, hl3⟩ (Upd.putObj _ _ _), World.putObj_heap_same (lt_of_block hl3), (World.putObj_heap_other (by omega)).trans hd3⟩⟩
      | exit id => exact hp3.elim
      | goto t => exact hp3.elim
      | panic ch => exact hp3.elim
      | outgrown => exact hp3.elim
    have hc := hiter (w.heap.size + 1) w.heap.size _ _ _ rfl rfl hsz hE1 hH ⟨hL1, hD1⟩
    have e0 : (#[Value.func (.yield (w.heap.size + 1)) #[] #[]] ++ lb.toArray : Array Value) = (Value.func (.yield (w.heap.size + 1)) #[] #[] :: lb).toArray := by simp
    rw [e0]
    refine callsIn_wide.2 (Calls.mono hc ?_)
    rintro e W2 ⟨v, rfl, ⟨hE, hl, hd⟩ | ⟨hE, hl, hd⟩⟩
    · refine ⟨none, _, run_endLoop hl (by simp [rec_]), ?_⟩
      refine hdone w.heap.size _ (Nat.le_refl _) (hEo () _ _ hE ⟨_, hl⟩ (Upd.putObj _ _ _)) ((World.putObj_heap_other (by omega)).trans hd) _ ⟨ha.size, ?_, ha.get⟩
      simp [ha.defers, mark]
    · refine ⟨some .ret, _, run_endLoop hl (by simp [rec_]), wpIn_ret ?_⟩
      refine hleft w.heap.size _ (Nat.le_refl _) (hEfo () _ _ hE ⟨_, hl⟩ (Upd.putObj _ _ _)) ((World.putObj_heap_other (by omega)).trans hd) _ ⟨ha.size, ?_, ha.get⟩
      simp [ha.defers, mark]
end
end Go.Proofs.YtclinbbghnebaaaGreat
