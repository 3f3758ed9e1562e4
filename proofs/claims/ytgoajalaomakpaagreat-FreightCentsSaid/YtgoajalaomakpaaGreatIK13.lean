/-
  Part 13 of the proof: contracts and plain laws. Conditions: none.
-/
import Derived.RangeFuncNested
import Derived.RangeFuncBound
import Derived.RangeFuncLeaves
import Derived.Test.YtgoajalaomakpaaGreatIK12
namespace Go.Proofs.YtgoajalaomakpaaGreat
open Go Go.RowKit

/-- An element goes down while it is less. -/
def insJ (c : Int → Int → Int) : List Int → Nat → List Int
  | ds, 0 => ds
  | ds, j + 1 => if c (nth ds (j + 1)) (nth ds j) < 0 then insJ c ((ds.set (j + 1) (nth ds j)).set j (nth ds (j + 1))) j else ds
def insI (c : Int → Int → Int) (ds : List Int) : Nat → List Int
  | 0 => ds
  | k + 1 => insJ c (insI c ds k) (k + 1)
theorem swp_perm {ds : List Int} {j : Nat} (h : j + 1 < ds.length) : ((ds.set (j + 1) (nth ds j)).set j (nth ds (j + 1))).Perm ds := by
  rw [nth_eq h, nth_eq (show j < ds.length by omega)]
  exact List.set_set_perm h (by omega)
theorem insJ_perm (c : Int → Int → Int) : ∀ (j : Nat) (ds : List Int), j < ds.length → (insJ c ds j).Perm ds
  | 0, _, _ => List.Perm.refl _
  | j + 1, ds, h => by
    unfold insJ
    split
    · exact (insJ_perm c j _ (by rw [List.length_set, List.length_set]; omega)).trans (swp_perm h)
    · exact List.Perm.refl _
theorem insI_perm (c : Int → Int → Int) (ds : List Int) : ∀ k, k < ds.length ∨ k = 0 → (insI c ds k).Perm ds
  | 0, _ => List.Perm.refl _
  | k + 1, h => by
    have h1 := insI_perm c ds k (.inl (by omega))
    exact (insJ_perm c (k + 1) _ (by rw [h1.length_eq]; omega)).trans h1
/-- The first k numbers are their own place. -/
def fillK (n : Nat) : Nat → List Int
  | 0 => List.replicate n 0
  | k + 1 => (fillK n k).set k (k : Int)
theorem fillK_len (n : Nat) : ∀ k, (fillK n k).length = n
  | 0 => by simp [fillK]
  | k + 1 => by simp [fillK, fillK_len n k]
theorem fillK_nth {n : Nat} : ∀ {k i : Nat}, i < n → k ≤ n → nth (fillK n k) i = if i < k then (i : Int) else 0
  | 0, i, h, _ => by rw [fillK, nth_eq (by simpa using h)]; simp
  | k + 1, i, h, hk => by
    have e : nth (fillK n (k + 1)) i = if k = i then (k : Int) else nth (fillK n k) i := by
      rw [fillK, nth_eq (by rw [List.length_set, fillK_len]; exact h), List.getElem_set, nth_eq (by rw [fillK_len]; exact h)]
    rw [e, fillK_nth h (by omega)]
    by_cases q : k = i
    · rw [if_pos q, if_pos (by omega), q]
    · rw [if_neg q]
      by_cases q2 : i < k
      · rw [if_pos q2, if_pos (by omega)]
      · rw [if_neg q2, if_neg (by omega)]
def iotaL (n : Nat) : List Int := fillK n n
theorem iotaL_len (n : Nat) : (iotaL n).length = n := fillK_len n n
theorem iotaL_nth {n i : Nat} (h : i < n) : nth (iotaL n) i = (i : Int) := by
  unfold iotaL; rw [fillK_nth h (Nat.le_refl _), if_pos h]
theorem iotaL_mem {n : Nat} {x : Int} (h : x ∈ iotaL n) : 0 ≤ x ∧ x < (n : Int) := by
  obtain ⟨i, hi, rfl⟩ := List.mem_iff_getElem.1 h
  rw [iotaL_len] at hi
  have := iotaL_nth hi
  rw [nth_eq (by rw [iotaL_len]; exact hi)] at this
  omega
/-- The order of offers: that of their begins. -/
def cmpO (l : List Off) (i k : Int) : Int := (nth l i.toNat).b - (nth l k.toNat).b
def ordP (l : List Off) : List Int := insI (cmpO l) (iotaL l.length) (l.length - 1)
theorem ordP_perm (l : List Off) : (ordP l).Perm (iotaL l.length) := insI_perm _ _ _ (by rw [iotaL_len]; omega)
theorem ordP_len (l : List Off) : (ordP l).length = l.length := by rw [(ordP_perm l).length_eq, iotaL_len]
theorem ordP_mem {l : List Off} {x : Int} (h : x ∈ ordP l) : 0 ≤ x ∧ x < (l.length : Int) := iotaL_mem ((ordP_perm l).mem_iff.1 h)
instance (h : Hul) : Decidable (okHul h) := by unfold okHul; infer_instance
/-- A run: offers one after another, and what they gain. -/
structure Rn where
  s : List Int
  g : Int
instance : Inhabited Rn := ⟨⟨[], 0⟩⟩
def aftH (h : Hul) (x : Off) : Hul := ⟨x.t, x.e, h.s, h.c⟩
def nxR (l : List Off) (h : Hul) (fr : List Rn) (now : Rn) (i : Int) : Rn := ⟨now.s ++ (nth fr i.toNat).s, now.g + (nth fr i.toNat).g - farH h (nth l i.toNat) * h.c⟩
abbrev inT (l : List Off) (h : Hul) (i : Int) : Prop := h.m + farH h (nth l i.toNat) * h.s ≤ (nth l i.toNat).b
def bstOk (l : List Off) (h : Hul) (fr : List Rn) (now out : Rn) (i : Int) : Prop := inT l h i ∧ btr (nxR l h fr now i).s (nxR l h fr now i).g out.s out.g = true
instance (l : List Off) (h : Hul) (fr : List Rn) (now out : Rn) (i : Int) : Decidable (bstOk l h fr now out i) := inferInstanceAs (Decidable (_ ∧ _))
def bstStep (l : List Off) (h : Hul) (fr : List Rn) (now out : Rn) (i : Int) : Rn := if bstOk l h fr now out i then nxR l h fr now i else out
/-- The best run of the first k later offers. -/
def bstK (l : List Off) (h : Hul) (fr : List Rn) (now : Rn) (later : List Int) : Nat → Rn
  | 0 => now
  | k + 1 => bstStep l h fr now (bstK l h fr now later k) (nth later k)
def bstP (l : List Off) (h : Hul) (fr : List Rn) (now : Rn) (later : List Int) : Rn := bstK l h fr now later later.length
/-- The best runs that begin with each of the last t offers. -/
def tabT (l : List Off) (h : Hul) (ord : List Int) : Nat → List Rn
  | 0 => List.replicate l.length ⟨[], 0⟩
  | t + 1 => (tabT l h ord t).set (nth ord (l.length - (t + 1))).toNat (bstP l (aftH h (nth l (nth ord (l.length - (t + 1))).toNat)) (tabT l h ord t) ⟨[nth ord (l.length - (t + 1))], (nth l (nth ord (l.length - (t + 1))).toNat).p⟩ (ord.drop (l.length - t)))
theorem tabT_len (l : List Off) (h : Hul) (ord : List Int) : ∀ t, (tabT l h ord t).length = l.length
  | 0 => by simp [tabT]
  | t + 1 => by rw [tabT, List.length_set, tabT_len l h ord t]
/-- A run's gain and length are small. -/
def RnB (t : Nat) (r : Rn) : Prop := 0 ≤ r.g ∧ r.g ≤ 1000000000 * (r.s.length : Int) ∧ r.s.length ≤ t
theorem RnB.mono {t u : Nat} {r : Rn} (h : RnB t r) (q : t ≤ u) : RnB u r := ⟨h.1, h.2.1, by have := h.2.2; omega⟩
theorem btr_ge {a : List Int} {ga : Int} {b : List Int} {gb : Int} (h : btr a ga b gb = true) : gb ≤ ga := by
  unfold btr at h
  rw [decide_eq_true_eq, or3_lt, cmp_lt, cmp_eq] at h
  omega
theorem bstK_bd {l : List Off} {h : Hul} {fr : List Rn} {now : Rn} {later : List Int} {a t : Nat} (hl : ∀ x ∈ l, okOff x = true) (hh : okHul h) (hf : ∀ i, i < fr.length → RnB t (nth fr i)) (hn : RnB a now) (hm : ∀ i ∈ later, 0 ≤ i ∧ i < (l.length : Int)) (hfl : fr.length = l.length) :
    ∀ k, k ≤ later.length → RnB (a + t) (bstK l h fr now later k)
  | 0, _ => hn.mono (by omega)
  | k + 1, hk => by
    have h1 := bstK_bd hl hh hf hn hm hfl k (by omega)
    unfold bstK bstStep
    split
    · rename_i q
      have hi := hm _ (nth_mem (xs := later) (i := k) (by omega))
      have h2 := hf (nth later k).toNat (by omega)
      have h3 := btr_ge q.2
      have h4 := farH_rng hh (hl _ (nth_mem (xs := l) (i := (nth later k).toNat) (by omega)))
      have h5 : 0 ≤ farH h (nth l (nth later k).toNat) * h.c := Int.mul_nonneg h4.1 hh.2.2.2.1
      obtain ⟨n1, n2, n3⟩ := hn
      obtain ⟨f1, f2, f3⟩ := h2
      refine ⟨Int.le_trans h1.1 h3, ?_, ?_⟩
      · simp only [nxR, List.length_append]; omega
      · simp only [nxR, List.length_append]; omega
    · exact h1
theorem tabT_bd {l : List Off} {h : Hul} {ord : List Int} (hl : ∀ x ∈ l, okOff x = true) (hh : okHul h) (ho : ∀ i ∈ ord, 0 ≤ i ∧ i < (l.length : Int)) (hol : ord.length = l.length) : ∀ t, t ≤ l.length → ∀ i, i < l.length → RnB t (nth (tabT l h ord t) i)
  | 0, _, i, hi => by
    rw [tabT, nth_eq (by simpa using hi)]; simp [RnB]
  | t + 1, ht, i, hi => by
    have ih := tabT_bd hl hh ho hol t (by omega)
    have hq := ho _ (nth_mem (xs := ord) (i := l.length - (t + 1)) (by omega))
    have hx := hl _ (nth_mem (xs := l) (i := (nth ord (l.length - (t + 1))).toNat) (by omega))
    unfold okOff at hx
    rw [decide_eq_true_eq] at hx
    have hb := bstK_bd (a := 1) (t := t) (now := ⟨[nth ord (l.length - (t + 1))], (nth l (nth ord (l.length - (t + 1))).toNat).p⟩) (h := aftH h (nth l (nth ord (l.length - (t + 1))).toNat)) (later := ord.drop (l.length - t)) hl ⟨hx.1.2, hx.2.1.2, hh.2.2.1, hh.2.2.2⟩ (fun i h => ih i (by rw [tabT_len] at h; exact h))
      ⟨hx.2.2.2.1, by simpa using hx.2.2.2.2, by simp⟩ (fun i h => ho i (List.mem_of_mem_drop h)) (tabT_len _ _ _ _) (ord.drop (l.length - t)).length (Nat.le_refl _)
    rw [tabT, nth_eq (by rw [List.length_set, tabT_len]; exact hi), List.getElem_set]
    split
    · exact hb.mono (by omega)
    · have := ih i hi
      rw [nth_eq (by rw [tabT_len]; exact hi)] at this
      exact this.mono (by omega)
/-- What Best returns. -/
def bestP (l : List Off) (h : Hul) : Rn := bstP l h (tabT l h (ordP l) l.length) ⟨[], 0⟩ (ordP l)
def bestE (l : List Off) (h : Hul) : Int := if 12 < l.length then 5 else if (l.any fun x => !okOff x) = true then 2 else if ¬ okHul h then 3 else 0

end Go.Proofs.YtgoajalaomakpaaGreat
namespace Go.Proofs.YtgoajalaomakpaaGreat
open Go Go.RowKit Go.Proofs.Tryz

theorem okOff_b {x : Off} (h : okOff x = true) : 0 ≤ x.b ∧ x.b ≤ 100000 := by
  unfold okOff at h; rw [decide_eq_true_eq] at h; omega
theorem best2_c (i k : Int) (l : List Off) (al : Option Addr) (bl ol cl bx : Nat) (w0 : World) (hb : Blk w0 bx 34 [.slice al l.length cl]) (hl : Sl encOff 5 w0 al bl ol l) (hok : ∀ x ∈ l, okOff x = true) (hi : 0 ≤ i ∧ i < (l.length : Int)) (hk : 0 ≤ k ∧ k < (l.length : Int)) :
    CallsV Tryz.prog 61 [.int .i64 i, .int .i64 k, .pointer (some ⟨bx, 0, none⟩)] w0 (fun v w' => v = .int .i64 (cmpO l i k) ∧ Ext w0 w') := by
 have hq1 := okOff_b (hok _ (nth_mem (xs := l) (i := i.toNat) (by omega)))
 have hq2 := okOff_b (hok _ (nth_mem (xs := l) (i := k.toNat) (by omega)))
 refine f_n func61 ?_
 refine go ?_
 refine c_drawnM follows (fun _ => False) (OTl [0, 2, 4, 6, 8, 10, 12, 14, 16, 18, 20, 22]) (by kernel_rfl) fun w3 u4 => ?_
 have zu4 := u4.size
 have E5 := Sc.mk ((Upd.refl (fun _ => False) w0).nx u4)
 refine go ?_
 refine y_i i.toNat (hl.keep E5.u (fun _ h => h)) (fun _ => ?_) (hj := (by omega))
 refine go ?_
 refine y_i k.toNat (hl.keep E5.u (fun _ h => h)) (fun _ => ?_) (hj := (by omega))
 refine go ?_
 refine f_1 results61 ?_
 exact ⟨rfl, u_d⟩

theorem insSort_c (ds : List Int) (b cd : Nat) (l : List Off) (al : Option Addr) (bl ol cl bx : Nat) (w0 : World) (hd : Blk w0 b 3 (ds.map (Value.int .i64))) (hdl : ds.length ≤ 12) (hdm : ∀ x ∈ ds, 0 ≤ x ∧ x < (l.length : Int)) (hb : Blk w0 bx 34 [.slice al l.length cl]) (hl : Sl encOff 5 w0 al bl ol l) (hok : ∀ x ∈ l, okOff x = true) (hbx : bx ≠ b) (hbl : 0 < l.length → bl ≠ b) :
    CallsV Tryz.prog 129 [.slice (some ⟨b, 0, none⟩) ds.length cd, .int .i64 0, .int .i64 (ds.length : Int), .func (.func 61) #[] #[.pointer (some ⟨bx, 0, none⟩)]] w0 (fun v w' => (v = .tuple #[] ∧ Blk w' b 3 ((insI (cmpO l) ds (ds.length - 1)).map (Value.int .i64))) ∧ Upd (fun i => i = b) w0 w') := by
 refine f_n func129 ?_
 refine go ?_
 refine x_l1 (fun i => i = b) [0, 1, 2, 3] (fun (k : Nat) => [(8, .int .i64 ((k + 1 : Nat) : Int))]) (fun k w => Blk w b 3 ((insI (cmpO l) ds k).map (Value.int .i64)) ∧ (k < ds.length ∨ k = 0)) (fun k => ds.length - k) 0 ⟨hd, (.inr rfl)⟩ ?_
 rintro k w3 ⟨I5, hk⟩ u4 zu4 K2 hK2
 refine go ?_
 refine q_p (fun g14 => ?_) fun g14 => ?_
 ·
  refine go ?_
  have hip := insI_perm (cmpO l) ds k (by omega)
  have hil := hip.length_eq
  refine x_l2 (fun i => i = b) [0, 1, 2, 3, 8] (fun (j : Nat) (es : List Int) => [(9, .int .i64 (j : Int))]) (fun j es w => Blk w b 3 (es.map (Value.int .i64)) ∧ (insJ (cmpO l) es j = insI (cmpO l) ds (k + 1)) ∧ (es.length = ds.length) ∧ (∀ x ∈ es, 0 ≤ x ∧ x < (l.length : Int)) ∧ (j < ds.length)) (fun j es => j) (k + 1) (insI (cmpO l) ds k) ⟨I5, rfl, hil, (fun x hx => hdm x (hip.mem_iff.1 hx)), (by omega)⟩ ?_
  rintro j es w12 ⟨I14, hins, hel, hmem, hj⟩ u13 zu13 K11 hK11
  refine go ?_
  refine c_drawnM follows (fun _ => False) (OTl [0, 2, 4, 6, 8, 10, 12, 14, 16, 18, 20, 22, 24, 26, 29, 30, 32]) (by kernel_rfl) fun w18 u19 => ?_
  have zu19 := u19.size
  refine go ?_
  refine y_splitp 21 rfl (fun g21 => ?_) (fun g21 => ?_)
  ·
   refine go ?_
   have B21 := (I14.kx u19)
   refine y_i j (SlI.own B21) (fun _ => ?_)
   refine go ?_
   refine y_i (j - 1) (SlI.own B21) (fun _ => ?_) (hj := (by omega))
   refine go ?_
   have D24 := (((hl.keep u4 (fun h9 => show ¬ (bl = b) by have := hbl h9; omega)).keep u13 (fun h9 => show ¬ (bl = b) by have := hbl h9; omega)).keep u19 (fun _ h => h))
   have B25 := (((hb.keep u4 (by omega)).keep u13 (by omega)).kx u19)
   refine x_c func61 rfl rfl (best2_c (nth es j) (nth es (j - 1)) l al bl ol cl bx _ B25 D24 hok (hmem _ (nth_mem (by omega))) (hmem _ (nth_mem (by omega)))) ?_
   rintro _ w27 ⟨rfl, u28⟩ zu28
   refine go ?_
   refine q_p (fun g34 => ?_) fun g34 => ?_
   ·
    refine go ?_
    refine c_drawnM follows (fun i => i = b) (.look 0 (.look 1 (.look 2 (.look 3 (.look 4 (.look 5 (.look 6 (.look 7 (.look 8 (.look 10 (.look 11 (.look 12 (.act 9 (.act 13 (.look 14 (.act 15 (.act 16 (.act 17 .done .stop) .stop) .stop)) .stop) (.act 13 (.act 9 (.look 14 (.act 15 (.act 16 (.act 17 .done .stop) .stop) .stop)) .stop) .stop)))))))))))))) (by kernel_rfl) fun w32 u33 => ?_
    have zu33 := u33.size
    refine go ?_
    have B35 := ((B21.kx u28).kx u33)
    refine y_i (j - 1) (SlI.own B35) (fun _ => ?_) (hj := (by omega))
    refine go ?_
    refine y_i j (SlI.own B35) (fun _ => ?_)
    refine s_or ?_ ?_
    ·
     refine go ?_
     refine y_i j (SlI.own B35) (fun _ => ?_)
     refine go ?_
     refine t_storeI (ls := es) (v := (nth es (j - 1))) j sizeOf3 rfl rfl rfl B35 (by omega) (fun w39 sw39 B41 u40 => ?_)
     refine go ?_
     have i43 : (j - 1) < (es.set j (nth es (j - 1))).length := (by rw [List.length_set]; omega)
     refine g_i (j - 1) (SlI.own B41) (fun _ => ?_) (hj := (by omega))
     refine go ?_
     refine t_storeI (ls := (es.set j (nth es (j - 1)))) (v := (nth es j)) (j - 1) sizeOf3 rfl rfl rfl B41 (by omega) (fun w44 sw44 B46 u45 => ?_)
     refine go ?_
     exact hK11 (j - 1) ((es.set j (nth es (j - 1))).set (j - 1) (nth es j)) ⟨B46, (by rw [← hins]; obtain ⟨i9, rfl⟩ : ∃ i9, j = i9 + 1 := ⟨j - 1, by omega⟩; simp only [Nat.add_sub_cancel] at *; rw [insJ, if_pos (by omega)]), (by rw [List.length_set, List.length_set]; exact hel), (fun x hx => hmem x ((show ((es.set j (nth es (j - 1))).set (j - 1) (nth es j)).Perm es by obtain ⟨i9, rfl⟩ : ∃ i9, j = i9 + 1 := ⟨j - 1, by omega⟩; exact swp_perm (by omega)).mem_iff.1 hx)), (by omega)⟩ (hs := by exact ⟨(congrArg some (congrArg (Value.int .i64) (by show (j : Int) - 1 = ((j - 1 : Nat) : Int); omega))), rfl, rfl, rfl, rfl, rfl, trivial⟩)
    refine go ?_
    refine y_i j (SlI.own B35) (fun _ => ?_)
    refine go ?_
    refine t_storeI (ls := es) (v := (nth es (j - 1))) j sizeOf3 rfl rfl rfl B35 (by omega) (fun w49 sw49 B51 u50 => ?_)
    refine go ?_
    have i53 : (j - 1) < (es.set j (nth es (j - 1))).length := (by rw [List.length_set]; omega)
    refine g_i (j - 1) (SlI.own B51) (fun _ => ?_) (hj := (by omega))
    refine go ?_
    refine t_storeI (ls := (es.set j (nth es (j - 1)))) (v := (nth es j)) (j - 1) sizeOf3 rfl rfl rfl B51 (by omega) (fun w54 sw54 B56 u55 => ?_)
    refine go ?_
    exact hK11 (j - 1) ((es.set j (nth es (j - 1))).set (j - 1) (nth es j)) ⟨B56, (by rw [← hins]; obtain ⟨i9, rfl⟩ : ∃ i9, j = i9 + 1 := ⟨j - 1, by omega⟩; simp only [Nat.add_sub_cancel] at *; rw [insJ, if_pos (by omega)]), (by rw [List.length_set, List.length_set]; exact hel), (fun x hx => hmem x ((show ((es.set j (nth es (j - 1))).set (j - 1) (nth es j)).Perm es by obtain ⟨i9, rfl⟩ : ∃ i9, j = i9 + 1 := ⟨j - 1, by omega⟩; exact swp_perm (by omega)).mem_iff.1 hx)), (by omega)⟩ (hs := by exact ⟨(congrArg some (congrArg (Value.int .i64) (by show (j : Int) - 1 = ((j - 1 : Nat) : Int); omega))), rfl, rfl, rfl, rfl, rfl, trivial⟩)
   refine go ?_
   have hend : insI (cmpO l) ds (k + 1) = es := by
     rw [← hins]
     rcases Nat.eq_zero_or_pos j with rfl | h9
     · rfl
     · obtain ⟨i9, rfl⟩ : ∃ i9, j = i9 + 1 := ⟨j - 1, by omega⟩
       rw [insJ, if_neg]; (try simp only [Nat.add_sub_cancel] at *); omega
   have B58 := (B21.kx u28)
   exact hK2 (k + 1) ⟨(by rw [hend]; exact B58), (.inl (by omega))⟩
  refine go ?_
  have hend : insI (cmpO l) ds (k + 1) = es := by
    rw [← hins]
    rcases Nat.eq_zero_or_pos j with rfl | h9
    · rfl
    · obtain ⟨i9, rfl⟩ : ∃ i9, j = i9 + 1 := ⟨j - 1, by omega⟩
      rw [insJ, if_neg]; (try simp only [Nat.add_sub_cancel] at *); omega
  have B59 := (I14.kx u19)
  exact hK2 (k + 1) ⟨(by rw [hend]; exact B59), (.inl (by omega))⟩
 refine go ?_
 refine f_ret0 results129 ?_
 obtain rfl : k = ds.length - 1 := by omega
 exact ⟨⟨rfl, I5⟩, u_d⟩

theorem stable_c (ds : List Int) (b cd : Nat) (l : List Off) (al : Option Addr) (bl ol cl bx : Nat) (w0 : World) (hd : Blk w0 b 3 (ds.map (Value.int .i64))) (hdl : ds.length ≤ 12) (hdm : ∀ x ∈ ds, 0 ≤ x ∧ x < (l.length : Int)) (hb : Blk w0 bx 34 [.slice al l.length cl]) (hl : Sl encOff 5 w0 al bl ol l) (hok : ∀ x ∈ l, okOff x = true) (hbx : bx ≠ b) (hbl : 0 < l.length → bl ≠ b) :
    CallsV Tryz.prog 101 [.slice (some ⟨b, 0, none⟩) ds.length cd, .int .i64 (ds.length : Int), .func (.func 61) #[] #[.pointer (some ⟨bx, 0, none⟩)]] w0 (fun v w' => (v = .tuple #[] ∧ Blk w' b 3 ((insI (cmpO l) ds (ds.length - 1)).map (Value.int .i64))) ∧ Upd (fun i => i = b) w0 w') := by
 refine f_n func101 ?_
 refine go ?_
 refine c_rounds 1 (WR.weak [(0, .slice (some ⟨b, 0, none⟩) ds.length cd), (1, .int .i64 (ds.length : Int)), (2, .func (.func 61) #[] #[.pointer (some ⟨bx, 0, none⟩)]), (6, .int .i64 20), (7, .int .i64 0), (8, .int .i64 20)] ⟨rfl, rfl, rfl, rfl, rfl, rfl, trivial⟩ (r_round fun K4 hK4 => (q_of ?_)))
 refine go ?_
 refine q_p (fun g13 => ?_) fun g13 => ?_
 ·
  exfalso; omega
 refine go ?_
 refine x_c func129 rfl rfl (insSort_c ds b cd l al bl ol cl bx _ hd hdl hdm hb hl hok hbx hbl) ?_
 rintro _ w9 ⟨⟨rfl, hB9⟩, u10⟩ zu10
 refine go ?_
 refine c_rounds 1 (WR.weak [(0, .slice (some ⟨b, 0, none⟩) ds.length cd), (1, .int .i64 (ds.length : Int)), (2, .func (.func 61) #[] #[.pointer (some ⟨bx, 0, none⟩)]), (6, .int .i64 20)] ⟨rfl, rfl, rfl, rfl, trivial⟩ (r_round fun K13 hK13 => (q_of ?_)))
 refine go ?_
 refine q_p (fun g30 => ?_) fun g30 => ?_
 ·
  exfalso; omega
 refine go ?_
 refine f_ret0 results101 ?_
 exact ⟨⟨rfl, hB9⟩, u_d⟩

theorem sortStable_c (ds : List Int) (b cd : Nat) (l : List Off) (al : Option Addr) (bl ol cl bx : Nat) (w0 : World) (hd : Blk w0 b 3 (ds.map (Value.int .i64))) (hdl : ds.length ≤ 12) (hdm : ∀ x ∈ ds, 0 ≤ x ∧ x < (l.length : Int)) (hb : Blk w0 bx 34 [.slice al l.length cl]) (hl : Sl encOff 5 w0 al bl ol l) (hok : ∀ x ∈ l, okOff x = true) (hbx : bx ≠ b) (hbl : 0 < l.length → bl ≠ b) :
    CallsV Tryz.prog 60 [.slice (some ⟨b, 0, none⟩) ds.length cd, .func (.func 61) #[] #[.pointer (some ⟨bx, 0, none⟩)]] w0 (fun v w' => (v = .tuple #[] ∧ Blk w' b 3 ((insI (cmpO l) ds (ds.length - 1)).map (Value.int .i64))) ∧ Upd (fun i => i = b) w0 w') := by
 refine f_n func60 ?_
 refine go ?_
 refine x_c func101 rfl rfl (stable_c ds b cd l al bl ol cl bx _ hd hdl hdm hb hl hok hbx hbl) ?_
 rintro _ w2 ⟨⟨rfl, hB9⟩, u3⟩ zu3
 refine go ?_
 refine f_ret0 results60 ?_
 exact ⟨⟨rfl, hB9⟩, u_d⟩

end Go.Proofs.YtgoajalaomakpaaGreat
namespace Go.Proofs.YtgoajalaomakpaaGreat
open Go Go.RowKit Go.Proofs.Tryz

/-- A run in memory. -/
structure HR where
  r : Rn
  ao : Option Addr
  g : Nat
  o : Nat
  cp : Nat
instance : Inhabited HR := ⟨⟨default, none, 0, 0, 0⟩⟩
def encHR (h : HR) : List Value := [.slice h.ao h.r.s.length h.cp, .int .i64 h.r.g]
theorem nth_mapR (hs : List HR) (i : Nat) : nth (hs.map HR.r) i = (nth hs i).r := by
  unfold nth
  rw [List.getD_eq_getElem?_getD, List.getD_eq_getElem?_getD, List.getElem?_map]
  cases hs[i]? <;> rfl
theorem nth_mapR_set (hs : List HR) (i : Nat) (x : HR) : (hs.set i x).map HR.r = (hs.map HR.r).set i x.r := by rw [List.map_set]
set_option maxHeartbeats 4000000 in
theorem best3_c (h : Hul) (lt : List Int) (at_ : Option Addr) (bt ot ct : Nat) (now : Rn) (an : Option Addr) (bn on cn : Nat) (l : List Off) (al : Option Addr) (bl ol cl bx : Nat) (hs : List HR) (af : Option Addr) (gf of_ cf bf : Nat) (nl : Nat) (w0 : World) (hx : Blk w0 bx 34 [.slice al l.length cl]) (hl : Sl encOff 5 w0 al bl ol l) (hok : ∀ x ∈ l, okOff x = true) (_hll : l.length ≤ 12) (hf : Blk w0 bf 135 [.slice af l.length cf]) (hs0 : Sl encHR 2 w0 af gf of_ hs) (hsl : hs.length = l.length) (hm : ∀ h ∈ hs, Sl encI 1 w0 h.ao h.g h.o h.r.s) (hB : ∀ h ∈ hs, RnB 12 h.r) (hnl0 : lt.length = nl) (hlt : Sl encI 1 w0 at_ bt ot lt) (hltl : lt.length ≤ 12) (hltm : ∀ i ∈ lt, 0 ≤ i ∧ i < (l.length : Int)) (hns : Sl encI 1 w0 an bn on now.s) (hnb : RnB 1 now) (hh : okHul h) (_hpos : 0 < w0.heap.size) :
    CallsV Tryz.prog 62 [.agg #[.int .i64 h.p, .int .i64 h.m, .int .i64 h.s, .int .i64 h.c], .slice at_ nl ct, .agg #[.slice an now.s.length cn, .int .i64 now.g], .pointer (some ⟨bx, 0, none⟩), .pointer (some ⟨bf, 0, none⟩)] w0 (fun v w' => (∃ ao g o cp, v = .agg #[.slice ao (List.length (bstP l h (hs.map HR.r) now lt).s) cp, .int .i64 (bstP l h (hs.map HR.r) now lt).g] ∧ Sl encI 1 w' ao g o (bstP l h (hs.map HR.r) now lt).s ∧ (0 < (bstP l h (hs.map HR.r) now lt).s.length → g = bn ∨ w0.heap.size ≤ g)) ∧ Ext w0 w') := by
 have hxlt := hx.lt
 have hflt := hf.lt
 refine f_n func62 ?_
 refine go ?_
 refine x_b fun bk2 w3 ebk2 sbk2 B4 u5 => ?_
 refine x_b fun bk7 w8 ebk7 sbk7 B9 u10 => ?_
 refine x_n fun bk12 w13 ebk12 sbk12 B14 u15 => ?_
 refine go ?_
 refine x_n fun bk18 w19 ebk18 sbk18 B20 u21 => ?_
 refine x_s fun w23 sw23 B25 u24 => ?_
 have E26 := Sc.mk ((((((Upd.refl (fun _ => False) w0).nx u5).nx u10).nx u15).nx u21).next u24 (fun i hi h => by omega))
 refine go ?_
 refine x_l5 (fun i => i = bk18) [3, 4, 5, 7, 8, 9, 16, 17] (fun (k : Nat) (ao : Option Addr) (gw : Nat) (oo : Nat) (co : Nat) => [(18, .int .i64 (k : Int))]) (fun k ao gw oo co w => Blk w bk18 139 [.slice ao ((bstK l h (hs.map HR.r) now lt k).s.length) co, .int .i64 ((bstK l h (hs.map HR.r) now lt k).g)] ∧ (k ≤ lt.length) ∧ (Sl encI 1 w ao gw oo (bstK l h (hs.map HR.r) now lt k).s) ∧ (0 < (bstK l h (hs.map HR.r) now lt k).s.length → (gw = bn ∧ bn < w0.heap.size) ∨ w23.heap.size ≤ gw)) (fun k ao gw oo co => lt.length - k) 0 an bn on cn ⟨B25, (Nat.zero_le _), (hns.keep E26.u (fun _ h => h)), (fun h9 => .inl ⟨rfl, hns.lt h9⟩)⟩ ?_
 rintro k ao gw oo co w30 ⟨I32, hk, hos, hgo⟩ u31 zu31 K29 hK29
 have E33 := Sc.mk (E26.u.next u31 (fun i hi h => by omega))
 refine go ?_
 refine q_p (fun g19 => ?_) fun g19 => ?_
 ·
  have hik := hltm _ (nth_mem (xs := lt) (i := k) (by omega))
  have hbk := bstK_bd hok hh (fun i hi => by rw [nth_mapR]; exact hB _ (nth_mem (by simpa using hi))) hnb hltm (by rw [List.length_map]; exact hsl) k (by omega)
  have hb1 := hB _ (nth_mem (xs := hs) (i := (nth lt k).toNat) (by omega))
  have hb2 := hnb.1
  have hb3 := hnb.2
  obtain ⟨hb4, hb5, hb6⟩ := hb1
  obtain ⟨hk1, hk2, hk3⟩ := hbk
  have hfa := farH_rng hh (hok _ (nth_mem (xs := l) (i := (nth lt k).toNat) (by omega)))
  have hfc := Int.mul_nonneg hfa.1 hh.2.2.2.1
  have hfd := Int.mul_le_mul hfa.2 hh.2.2.2.2 hh.2.2.2.1 (by omega)
  have hnl : (nxR l h (hs.map HR.r) now (nth lt k)).s.length = now.s.length + (nth hs (nth lt k).toNat).r.s.length := by simp only [nxR, nth_mapR, List.length_append]
  have hng : (nxR l h (hs.map HR.r) now (nth lt k)).g = now.g + (nth hs (nth lt k).toNat).r.g - farH h (nth l (nth lt k).toNat) * h.c := by simp only [nxR, nth_mapR]
  refine go ?_
  refine g_i k (hlt.keep E33.u (fun _ h => h)) (fun _ => ?_)
  refine go ?_
  refine c_drawnM follows (fun _ => False) (OTl [0, 2, 4, 6, 8, 11, 12, 14, 16, 18, 20]) (by kernel_rfl) fun w40 u41 => ?_
  have zu41 := u41.size
  have E42 := Sc.mk (E33.u.nx u41)
  refine go ?_
  refine y_i ((nth lt k).toNat) (hl.keep E42.u (fun _ h => h)) (fun _ => ?_) (hj := (by omega))
  refine go ?_
  refine x_c func63 rfl rfl (reach_c h (nth l ((nth lt k).toNat)) _ hh (hok _ (nth_mem (by omega)))) ?_
  rintro _ w45 ⟨rfl, u46⟩ zu46
  refine go ?_
  refine c_drawnM follows (fun _ => False) (.look 0 (.look 1 (.look 2 (.look 3 (.look 4 (.look 5 (.look 6 (.look 9 (.look 10 (.look 11 (.look 12 (.look 13 (.look 14 (.look 15 (.look 16 (.look 17 (.look 18 (.act 7 (.act 8 (.look 19 (.act 20 (.act 21 .done .stop) .stop)) (.act 20 (.act 8 (.look 19 (.act 21 .done .stop)) .stop) .stop)) (.act 20 (.act 7 (.act 8 (.look 19 (.act 21 .done .stop)) .stop) .stop) .stop))))))))))))))))))) (by kernel_rfl) fun w50 u51 => ?_
  have zu51 := u51.size
  have E52 := Sc.mk ((E42.u.nx u46).nx u51)
  refine go ?_
  refine y_i ((nth lt k).toNat) (hs0.keep E52.u (fun _ h => h)) (fun _ => ?_) (hj := (by omega))
  refine go ?_
  refine y_i ((nth lt k).toNat) (hs0.keep E52.u (fun _ h => h)) (fun _ => ?_) (hj := (by omega))
  iterate 5 refine st1 ?_
  refine y_same 49 (v := .int .i64 ((nxR l h (hs.map HR.r) now (nth lt k)).g)) rfl (by rw [hng]) (s_or ?_ ?_)
  ·
   refine go ?_
   refine x_l fun bk55 w56 ebk55 sbk55 B57 u58 => ?_
   have E59 := Sc.mk (E52.u.nx u58)
   refine go ?_
   refine s_or ?_ ?_
   ·
    refine go ?_
    have hLm9 : ∀ h ∈ [(⟨now.s, an, bn, on, cn⟩ : Hl Int), ⟨(nth hs (nth lt k).toNat).r.s, (nth hs (nth lt k).toNat).ao, (nth hs (nth lt k).toNat).g, (nth hs (nth lt k).toNat).o, (nth hs (nth lt k).toNat).cp⟩], Sl encI 1 w56 h.ao h.g h.o h.xs ∧ h.xs.length ≤ 1000 := by
      intro h hh
      simp only [List.mem_cons, List.not_mem_nil, or_false] at hh
      rcases hh with rfl | rfl
      · exact ⟨(hns.keep E59.u (fun _ h => h)), by show now.s.length ≤ 1000; omega⟩
      · exact ⟨((hm (nth hs (nth lt k).toNat) (nth_mem (by omega))).keep E59.u (fun _ h => h)), by show (nth hs (nth lt k).toNat).r.s.length ≤ 1000; omega⟩
    refine x_c func64 rfl rfl (concatI_c [(⟨now.s, an, bn, on, cn⟩ : Hl Int), ⟨(nth hs (nth lt k).toNat).r.s, (nth hs (nth lt k).toNat).ao, (nth hs (nth lt k).toNat).g, (nth hs (nth lt k).toNat).o, (nth hs (nth lt k).toNat).cp⟩] (nxR l h (hs.map HR.r) now (nth lt k)).s (some ⟨bk55, 0, none⟩) bk55 0 2 _ (Sl.ofBlk (enc := encHl) (fun _ => rfl) B57) hLm9 (Nat.le_refl 2) (by simp [nxR, nth_mapR]) (by omega)) ?_
    rintro _ w61 ⟨⟨aC, gC, cC, rfl, hcC⟩, u62⟩ zu62
    have hcs := hcC.sl (fun _ => rfl)
    have hcg := hcC.ge
    have hcl := hcs.lt
    refine go ?_
    refine x_n fun bk65 w66 ebk65 sbk65 B67 u68 => ?_
    refine go ?_
    refine x_s fun w70 sw70 B72 u71 => ?_
    refine go ?_
    refine t_splitp 52 rfl (fun g52 => ?_) (fun g52 => ?_)
    ·
     refine go ?_
     have D75 := ((hcs.keep u68 (fun _ h => h)).keep u71 (fun h9 => show ¬ (gC = bk65) by have := hcg h9; have := hcl h9; omega))
     have D76 := (((((((hos.keep u41 (fun _ h => h)).keep u46 (fun _ h => h)).keep u51 (fun _ h => h)).keep u58 (fun _ h => h)).keep u62 (fun _ h => h)).keep u68 (fun _ h => h)).keep u71 (fun h9 => show ¬ (gw = bk65) by have := hgo h9; have := hos.lt h9; omega))
     refine x_c func65 rfl rfl (better_c ((nxR l h (hs.map HR.r) now (nth lt k)).s) aC gC 0 cC ((bstK l h (hs.map HR.r) now lt k).s) ao gw oo co ((nxR l h (hs.map HR.r) now (nth lt k)).g) ((bstK l h (hs.map HR.r) now lt k).g) _ D75 D76 (by omega) (by omega)) ?_
     rintro _ w78 ⟨rfl, u79⟩ zu79
     refine go ?_
     refine q_b (fun g56 => ?_) fun g56 => ?_
     ·
      refine go ?_
      refine x_s fun w82 sw82 B84 u83 => ?_
      refine go ?_
      have hst : (bstK l h (hs.map HR.r) now lt (k + 1)) = (nxR l h (hs.map HR.r) now (nth lt k)) := if_pos ⟨by unfold inT; omega, by assumption⟩
      have D86 := ((D75.keep u79 (fun _ h => h)).keep u83 (fun h9 => show ¬ (gC = bk18) by have := hcg h9; have := hcl h9; omega))
      exact hK29 (k + 1) aC gC 0 cC ⟨(by rw [hst]; exact B84), (by omega), (by rw [hst]; exact D86), (by rw [hst]; exact fun h9 => by have := hcg h9; omega)⟩
     refine go ?_
     have hst : (bstK l h (hs.map HR.r) now lt (k + 1)) = (bstK l h (hs.map HR.r) now lt k) := if_neg (fun h9 => by have h8 := h9.1; have h7 := h9.2; unfold inT at h8; first | omega | simp_all)
     have B87 := ((((((((I32.kx u41).kx u46).kx u51).kx u58).kx u62).kx u68).keep u71 (by omega)).kx u79)
     have D88 := (D76.keep u79 (fun _ h => h))
     exact hK29 (k + 1) ao gw oo co ⟨(by rw [hst]; exact B87), (by omega), (by rw [hst]; exact D88), (by rw [hst]; exact hgo)⟩
    refine go ?_
    have hst : (bstK l h (hs.map HR.r) now lt (k + 1)) = (bstK l h (hs.map HR.r) now lt k) := if_neg (fun h9 => by have h8 := h9.1; have h7 := h9.2; unfold inT at h8; first | omega | simp_all)
    have B89 := (((((((I32.kx u41).kx u46).kx u51).kx u58).kx u62).kx u68).keep u71 (by omega))
    have D90 := (((((((hos.keep u41 (fun _ h => h)).keep u46 (fun _ h => h)).keep u51 (fun _ h => h)).keep u58 (fun _ h => h)).keep u62 (fun _ h => h)).keep u68 (fun _ h => h)).keep u71 (fun h9 => show ¬ (gw = bk65) by have := hgo h9; have := hos.lt h9; omega))
    exact hK29 (k + 1) ao gw oo co ⟨(by rw [hst]; exact B89), (by omega), (by rw [hst]; exact D90), (by rw [hst]; exact hgo)⟩
   refine go ?_
   refine x_n fun bk91 w92 ebk91 sbk91 B93 u94 => ?_
   have E95 := Sc.mk (E59.u.nx u94)
   refine go ?_
   have B96 := (B57.kx u94)
   have hLm9 : ∀ h ∈ [(⟨now.s, an, bn, on, cn⟩ : Hl Int), ⟨(nth hs (nth lt k).toNat).r.s, (nth hs (nth lt k).toNat).ao, (nth hs (nth lt k).toNat).g, (nth hs (nth lt k).toNat).o, (nth hs (nth lt k).toNat).cp⟩], Sl encI 1 w92 h.ao h.g h.o h.xs ∧ h.xs.length ≤ 1000 := by
     intro h hh
     simp only [List.mem_cons, List.not_mem_nil, or_false] at hh
     rcases hh with rfl | rfl
     · exact ⟨(hns.keep E95.u (fun _ h => h)), by show now.s.length ≤ 1000; omega⟩
     · exact ⟨((hm (nth hs (nth lt k).toNat) (nth_mem (by omega))).keep E95.u (fun _ h => h)), by show (nth hs (nth lt k).toNat).r.s.length ≤ 1000; omega⟩
   refine x_c func64 rfl rfl (concatI_c [(⟨now.s, an, bn, on, cn⟩ : Hl Int), ⟨(nth hs (nth lt k).toNat).r.s, (nth hs (nth lt k).toNat).ao, (nth hs (nth lt k).toNat).g, (nth hs (nth lt k).toNat).o, (nth hs (nth lt k).toNat).cp⟩] (nxR l h (hs.map HR.r) now (nth lt k)).s (some ⟨bk55, 0, none⟩) bk55 0 2 _ (Sl.ofBlk (enc := encHl) (fun _ => rfl) B96) hLm9 (Nat.le_refl 2) (by simp [nxR, nth_mapR]) (by omega)) ?_
   rintro _ w98 ⟨⟨aC, gC, cC, rfl, hcC⟩, u99⟩ zu99
   have hcs := hcC.sl (fun _ => rfl)
   have hcg := hcC.ge
   have hcl := hcs.lt
   refine go ?_
   refine x_s fun w102 sw102 B104 u103 => ?_
   refine go ?_
   refine t_splitp 52 rfl (fun g52 => ?_) (fun g52 => ?_)
   ·
    refine go ?_
    have D107 := (hcs.keep u103 (fun h9 => show ¬ (gC = bk91) by have := hcg h9; have := hcl h9; omega))
    have D108 := (((((((hos.keep u41 (fun _ h => h)).keep u46 (fun _ h => h)).keep u51 (fun _ h => h)).keep u58 (fun _ h => h)).keep u94 (fun _ h => h)).keep u99 (fun _ h => h)).keep u103 (fun h9 => show ¬ (gw = bk91) by have := hgo h9; have := hos.lt h9; omega))
    refine x_c func65 rfl rfl (better_c ((nxR l h (hs.map HR.r) now (nth lt k)).s) aC gC 0 cC ((bstK l h (hs.map HR.r) now lt k).s) ao gw oo co ((nxR l h (hs.map HR.r) now (nth lt k)).g) ((bstK l h (hs.map HR.r) now lt k).g) _ D107 D108 (by omega) (by omega)) ?_
    rintro _ w110 ⟨rfl, u111⟩ zu111
    refine go ?_
    refine q_b (fun g56 => ?_) fun g56 => ?_
    ·
     refine go ?_
     refine x_s fun w114 sw114 B116 u115 => ?_
     refine go ?_
     have hst : (bstK l h (hs.map HR.r) now lt (k + 1)) = (nxR l h (hs.map HR.r) now (nth lt k)) := if_pos ⟨by unfold inT; omega, by assumption⟩
     have D118 := ((D107.keep u111 (fun _ h => h)).keep u115 (fun h9 => show ¬ (gC = bk18) by have := hcg h9; have := hcl h9; omega))
     exact hK29 (k + 1) aC gC 0 cC ⟨(by rw [hst]; exact B116), (by omega), (by rw [hst]; exact D118), (by rw [hst]; exact fun h9 => by have := hcg h9; omega)⟩
    refine go ?_
    have hst : (bstK l h (hs.map HR.r) now lt (k + 1)) = (bstK l h (hs.map HR.r) now lt k) := if_neg (fun h9 => by have h8 := h9.1; have h7 := h9.2; unfold inT at h8; first | omega | simp_all)
    have B119 := ((((((((I32.kx u41).kx u46).kx u51).kx u58).kx u94).kx u99).keep u103 (by omega)).kx u111)
    have D120 := (D108.keep u111 (fun _ h => h))
    exact hK29 (k + 1) ao gw oo co ⟨(by rw [hst]; exact B119), (by omega), (by rw [hst]; exact D120), (by rw [hst]; exact hgo)⟩
   refine go ?_
   have hst : (bstK l h (hs.map HR.r) now lt (k + 1)) = (bstK l h (hs.map HR.r) now lt k) := if_neg (fun h9 => by have h8 := h9.1; have h7 := h9.2; unfold inT at h8; first | omega | simp_all)
   have B121 := (((((((I32.kx u41).kx u46).kx u51).kx u58).kx u94).kx u99).keep u103 (by omega))
   have D122 := (((((((hos.keep u41 (fun _ h => h)).keep u46 (fun _ h => h)).keep u51 (fun _ h => h)).keep u58 (fun _ h => h)).keep u94 (fun _ h => h)).keep u99 (fun _ h => h)).keep u103 (fun h9 => show ¬ (gw = bk91) by have := hgo h9; have := hos.lt h9; omega))
   exact hK29 (k + 1) ao gw oo co ⟨(by rw [hst]; exact B121), (by omega), (by rw [hst]; exact D122), (by rw [hst]; exact hgo)⟩
  refine go ?_
  refine x_n fun bk123 w124 ebk123 sbk123 B125 u126 => ?_
  refine go ?_
  refine x_l fun bk128 w129 ebk128 sbk128 B130 u131 => ?_
  have E132 := Sc.mk ((E52.u.nx u126).nx u131)
  refine go ?_
  have hLm9 : ∀ h ∈ [(⟨now.s, an, bn, on, cn⟩ : Hl Int), ⟨(nth hs (nth lt k).toNat).r.s, (nth hs (nth lt k).toNat).ao, (nth hs (nth lt k).toNat).g, (nth hs (nth lt k).toNat).o, (nth hs (nth lt k).toNat).cp⟩], Sl encI 1 w129 h.ao h.g h.o h.xs ∧ h.xs.length ≤ 1000 := by
    intro h hh
    simp only [List.mem_cons, List.not_mem_nil, or_false] at hh
    rcases hh with rfl | rfl
    · exact ⟨(hns.keep E132.u (fun _ h => h)), by show now.s.length ≤ 1000; omega⟩
    · exact ⟨((hm (nth hs (nth lt k).toNat) (nth_mem (by omega))).keep E132.u (fun _ h => h)), by show (nth hs (nth lt k).toNat).r.s.length ≤ 1000; omega⟩
  refine x_c func64 rfl rfl (concatI_c [(⟨now.s, an, bn, on, cn⟩ : Hl Int), ⟨(nth hs (nth lt k).toNat).r.s, (nth hs (nth lt k).toNat).ao, (nth hs (nth lt k).toNat).g, (nth hs (nth lt k).toNat).o, (nth hs (nth lt k).toNat).cp⟩] (nxR l h (hs.map HR.r) now (nth lt k)).s (some ⟨bk128, 0, none⟩) bk128 0 2 _ (Sl.ofBlk (enc := encHl) (fun _ => rfl) B130) hLm9 (Nat.le_refl 2) (by simp [nxR, nth_mapR]) (by omega)) ?_
  rintro _ w134 ⟨⟨aC, gC, cC, rfl, hcC⟩, u135⟩ zu135
  have hcs := hcC.sl (fun _ => rfl)
  have hcg := hcC.ge
  have hcl := hcs.lt
  refine go ?_
  refine x_s fun w138 sw138 B140 u139 => ?_
  refine go ?_
  refine t_splitp 52 rfl (fun g52 => ?_) (fun g52 => ?_)
  ·
   refine go ?_
   have D143 := (hcs.keep u139 (fun h9 => show ¬ (gC = bk123) by have := hcg h9; have := hcl h9; omega))
   have D144 := (((((((hos.keep u41 (fun _ h => h)).keep u46 (fun _ h => h)).keep u51 (fun _ h => h)).keep u126 (fun _ h => h)).keep u131 (fun _ h => h)).keep u135 (fun _ h => h)).keep u139 (fun h9 => show ¬ (gw = bk123) by have := hgo h9; have := hos.lt h9; omega))
   refine x_c func65 rfl rfl (better_c ((nxR l h (hs.map HR.r) now (nth lt k)).s) aC gC 0 cC ((bstK l h (hs.map HR.r) now lt k).s) ao gw oo co ((nxR l h (hs.map HR.r) now (nth lt k)).g) ((bstK l h (hs.map HR.r) now lt k).g) _ D143 D144 (by omega) (by omega)) ?_
   rintro _ w146 ⟨rfl, u147⟩ zu147
   refine go ?_
   refine q_b (fun g56 => ?_) fun g56 => ?_
   ·
    refine go ?_
    refine x_s fun w150 sw150 B152 u151 => ?_
    refine go ?_
    have hst : (bstK l h (hs.map HR.r) now lt (k + 1)) = (nxR l h (hs.map HR.r) now (nth lt k)) := if_pos ⟨by unfold inT; omega, by assumption⟩
    have D154 := ((D143.keep u147 (fun _ h => h)).keep u151 (fun h9 => show ¬ (gC = bk18) by have := hcg h9; have := hcl h9; omega))
    exact hK29 (k + 1) aC gC 0 cC ⟨(by rw [hst]; exact B152), (by omega), (by rw [hst]; exact D154), (by rw [hst]; exact fun h9 => by have := hcg h9; omega)⟩
   refine go ?_
   have hst : (bstK l h (hs.map HR.r) now lt (k + 1)) = (bstK l h (hs.map HR.r) now lt k) := if_neg (fun h9 => by have h8 := h9.1; have h7 := h9.2; unfold inT at h8; first | omega | simp_all)
   have B155 := ((((((((I32.kx u41).kx u46).kx u51).kx u126).kx u131).kx u135).keep u139 (by omega)).kx u147)
   have D156 := (D144.keep u147 (fun _ h => h))
   exact hK29 (k + 1) ao gw oo co ⟨(by rw [hst]; exact B155), (by omega), (by rw [hst]; exact D156), (by rw [hst]; exact hgo)⟩
  refine go ?_
  have hst : (bstK l h (hs.map HR.r) now lt (k + 1)) = (bstK l h (hs.map HR.r) now lt k) := if_neg (fun h9 => by have h8 := h9.1; have h7 := h9.2; unfold inT at h8; first | omega | simp_all)
  have B157 := (((((((I32.kx u41).kx u46).kx u51).kx u126).kx u131).kx u135).keep u139 (by omega))
  have D158 := (((((((hos.keep u41 (fun _ h => h)).keep u46 (fun _ h => h)).keep u51 (fun _ h => h)).keep u126 (fun _ h => h)).keep u131 (fun _ h => h)).keep u135 (fun _ h => h)).keep u139 (fun h9 => show ¬ (gw = bk123) by have := hgo h9; have := hos.lt h9; omega))
  exact hK29 (k + 1) ao gw oo co ⟨(by rw [hst]; exact B157), (by omega), (by rw [hst]; exact D158), (by rw [hst]; exact hgo)⟩
 refine go ?_
 refine x_s fun w160 sw160 B162 u161 => ?_
 refine go ?_
 refine f_ret1 (v := .agg #[.slice ao ((bstK l h (hs.map HR.r) now lt k).s.length) co, .int .i64 ((bstK l h (hs.map HR.r) now lt k).g)]) results62 ⟨_, _, rfl, run_loadVarN (vs := [.slice ao ((bstK l h (hs.map HR.r) now lt k).s.length) co, .int .i64 ((bstK l h (hs.map HR.r) now lt k).g)]) isAgg139 sizeOf139 rfl (B162.at.sub 0 2)⟩ ?_
 have D164 := (hos.keep u161 (fun h9 => show ¬ (gw = bk12) by have := hgo h9; have := hos.lt h9; omega))
 obtain rfl : k = lt.length := by omega
 exact ⟨⟨_, _, _, _, rfl, D164, fun h9 => by have := hgo h9; omega⟩, u_d⟩

end Go.Proofs.YtgoajalaomakpaaGreat
namespace Go.Proofs.YtgoajalaomakpaaGreat
open Go Go.RowKit

theorem Ext.grownBy {w w' : World} (h : Ext w w') : w.grownBy w' none := ⟨h.os, h.tape, h.output, h.size, fun k hk _ => h.block k hk id⟩
theorem Upd.putObj (w : World) (l : Nat) (o : Obj) : Upd (· = l) w (w.putObj l o) := ⟨rfl, rfl, rfl, by simp, fun k _ hn => World.putObj_heap_other hn⟩

/-- What may turn is cells. -/
def CellsIn (S : Nat → Prop) (w : World) : Prop := ∀ k, k < w.heap.size → S k → ∃ cur t f, w.heap[k]? = some (.cells cur t f)

theorem CellsIn.none (w : World) : CellsIn (fun _ => False) w := fun _ _ h => h.elim
theorem Blk.cellsIn {w : World} {b : Nat} {t : TypeId} {cs : List Value} (h : Blk w b t cs) : CellsIn (· = b) w := fun k _ e => by subst e; exact ⟨_, _, _, h⟩
theorem Acc.cellsIn {α : Type} {enc : α → List Value} {k : Nat} {e : TypeId} {base : Nat} {w : World} {ao : Option Addr} {g cap : Nat} {xs : List α} (h : Acc enc k e base w ao g cap xs) : CellsIn (fun i => i = g ∧ base ≤ i) w := fun i _ hi => by
  rcases h.at_ with ⟨_, _, _, h1⟩ | ⟨_, _, cur, h1, _⟩
  · omega
  · rw [hi.1]; exact ⟨_, _, _, h1⟩
theorem CellsIn.or {S T : Nat → Prop} {w : World} (h : CellsIn S w) (k : CellsIn T w) : CellsIn (fun i => S i ∨ T i) w := fun i hi h' => h'.elim (h i hi) (k i hi)

theorem KeepsFrom.of_upd {S : Nat → Prop} {B : Nat} {w w' : World} (u : Upd S w w') (h : CellsIn S w) : KeepsFrom B w w' :=
  ⟨u.size, fun k o _ hk ho => (u.block k (Array.getElem?_eq_some_iff.1 hk).1 (fun hs => by
    obtain ⟨c, t, f, hc⟩ := h k (Array.getElem?_eq_some_iff.1 hk).1 hs
    rw [hk] at hc
    cases hc
    cases ho)).trans hk⟩

/-! ### The marks of ended loops among the deferred calls -/
def mark (D : Nat) : Deferred := { target := .collected D, args := #[] }

/-- The deferred calls are the marks of loops in whose rounds nothing was deferred. -/
def Marks (base : Nat) : List Deferred → World → Prop
  | [], _ => True
  | d :: ds, w => (∃ D, d = mark D ∧ base ≤ D ∧ w.heap[D]? = some (.deferred (some [])) ∧ (∀ d' ∈ ds, ∀ D', d' = mark D' → D' < D)) ∧ Marks base ds w

theorem Marks.keep {base : Nat} {S : Nat → Prop} : ∀ {ds : List Deferred} {w w' : World}, Marks base ds w → Upd S w w' → CellsIn S w → Marks base ds w'
  | [], _, _, _, _, _ => trivial
  | d :: ds, w, w', h, u, hc => by
    obtain ⟨⟨D, h1, h2, h3, h4⟩, h5⟩ := h
    refine ⟨⟨D, h1, h2, ?_, h4⟩, h5.keep u hc⟩
    have hlt := lt_of_block h3
    refine (u.block D hlt (fun hs => ?_)).trans h3
    obtain ⟨c, t, f, hq⟩ := hc D hlt hs
    rw [h3] at hq
    cases hq

theorem Marks.lt {base : Nat} : ∀ {ds : List Deferred} {w : World}, Marks base ds w → ∀ d ∈ ds, ∀ D, d = mark D → D < w.heap.size
  | [], _, _, d, hd, _, _ => by cases hd
  | d :: ds, w, h, d', hd, D', e => by
    obtain ⟨⟨D, h1, h2, h3, h4⟩, h5⟩ := h
    rcases List.mem_cons.1 hd with rfl | hd
    · rw [h1] at e
      injection e with e
      injection e with e
      subst e
      exact lt_of_block h3
    · exact h5.lt d' hd D' e

theorem Marks.keepLow {base : Nat} {S : Nat → Prop} {B : Nat} : ∀ {ds : List Deferred} {w w' : World}, Marks base ds w → Upd S w w' → (∀ d ∈ ds, ∀ D, d = mark D → D < B) → (∀ k, S k → B ≤ k) → Marks base ds w'
  | [], _, _, _, _, _, _ => trivial
  | d :: ds, w, w', h, u, hB, hS => by
    obtain ⟨⟨D, h1, h2, h3, h4⟩, h5⟩ := h
    refine ⟨⟨D, h1, h2, ?_, h4⟩, h5.keepLow u (fun d' hd' => hB d' (by simp [hd'])) hS⟩
    exact (u.block D (lt_of_block h3) (fun hs => by have := hB d (by simp) D h1; have := hS D hs; omega)).trans h3

theorem Marks.push {base : Nat} {ds : List Deferred} {w : World} {D : Nat} (h : Marks base ds w) (hb : base ≤ D) (hD : w.heap[D]? = some (.deferred (some []))) (hn : ∀ d ∈ ds, ∀ D', d = mark D' → D' < D) : Marks base (mark D :: ds) w :=
  ⟨⟨D, rfl, hb, hD, hn⟩, h⟩

section steps
variable {rd : Option Nat} {P : Program} {ops : Array Oper} {Q : Exit → Act → World → Prop} {N : Nat} {ds : List Deferred} {rest : List Oper} {L : Slots} {w : World}
variable {d : Nat} {ty : TypeId} {pos : String} {aft : Array Edge} {g : Option (Nat × Bool)} {c : Code}

theorem roundIn_rnd {n m : Nat} {l : Nat} {f : FuncId} {tmps : Array Value} {assign body : Code} {R : Ending → World → Prop} (h : RoundIn Fence.wide m P l f tmps assign body w R) : RoundIn (rnd rd) n P l f tmps assign body w R := by
  obtain ⟨_, h2⟩ := h
  refine ⟨rnd_fn _ _, fun c cs _ => ?_⟩
  have := h2 c cs (room_wide _)
  cases rd with
  | none => exact this
  | some l => exact this

/-- A call of yield: one round. -/
theorem t_yield {f : Operand} {l m : Nat} {xs : Array Operand} {ats : Array TypeId} {vs : List Value} {R : Ending → World → Prop} (hg : grd ops L g = true) (hN : Nat.blt d N = true)
    (hf : ev L f = some (.func (.yield l) #[] #[])) (hv : evs L xs.toList = some vs) (hy : YieldAt Fence.wide m P l vs.toArray w R) (hR : ∀ e w', R e w' → ∃ v, e = .returned v)
    (h : ∀ v w', R (.returned v) w' → WL rd P ops Q N ds rest ((d, v) :: L) w') : WL rd P ops Q N ds (⟨some d, .call ⟨.value f, xs, ats⟩, ty, pos, aft, g⟩ :: rest) L w := by
  refine ⟨fun a ha => ?_⟩
  obtain ⟨fn, tmps, assign, body, hy1, hy2⟩ := hy
  have e1 : xs.map a.eval = vs.toArray := by rw [← ha.evs hv, ← Array.toList_map]
  have hr : (execOp a.eval ⟨some d, .call ⟨.value f, xs, ats⟩, ty, pos, aft, g⟩).run P w = .ok (.round l fn tmps assign body) w := by
    simp [execOp, resolve, ha.ev hf, Deferred.ofValue, invoke, e1, hy1]
  unfold wpListIn
  rw [if_pos (ha.wanted (o := ⟨some d, .call ⟨.value f, xs, ats⟩, ty, pos, aft, g⟩) hg)]
  unfold Oper.wpIn
  refine ⟨fun f _ => rnd_fn _ f, ?_⟩
  rw [semAt_of_ok (by simp) hr, Oper.uponIn_round]
  refine ⟨fun h => by simp [rnd_depth] at h, RoundIn.mono (roundIn_rnd hy2) ?_⟩
  intro e w' r
  obtain ⟨v, rfl⟩ := hR e w' r
  exact h v w' r _ (ha.put v hN)

theorem f_enterM {R : Value → World → Prop} {f : FuncId} {fn : Func} {vs : List Value} (hf : P.funcs[f]? = some fn) (hb : fn.body = some c) (hn : Nat.ble vs.length N = true) (hN : fn.ntmps = N)
    (h : WC none P (bodyPostM (rnd none) 3 P fn fun e w' => ∃ v, e = .returned v ∧ R v w') N [] c (args 0 vs) w) : CallsV P f vs w R := by
  refine callsIn_wide.1 (callsIn_of_wp_marks (F := Fence.wide) (n := 3) hf hb trivial (h _ ⟨?_, rfl, ?_⟩))
  · have : vs.length ≤ N := Nat.le_of_ble_eq_true hn
    simp [hN]; omega
  · intro k v hk
    have ⟨_, h2⟩ := look_args vs 0 v hk
    rw [Array.getD_eq_getD_getElem?]
    have h3 : k < vs.length := by
      rcases Nat.lt_or_ge k vs.length with h | h
      · exact h
      · simp [List.getElem?_eq_none h] at h2
    rw [Array.getElem?_append_left (by simpa using h3)]
    simpa using congrArg (fun o => o.getD undef) h2

def tmpRes (L : Slots) : ResultVar → Option Value
  | .tmp t => look t L
  | .cell _ _ => none

theorem tmpRes.run {r : ResultVar} {v : Value} (h : tmpRes L r = some v) {a : Act} (ha : Kn N ds L a) (w : World) : (resOf a.tmps r).run P w = .ok v w := by
  cases r with
  | tmp t => simp only [resOf, Sem.run_pure]; rw [ha.get _ _ h]
  | cell s t => cases h

end steps
end Go.Proofs.YtgoajalaomakpaaGreat
namespace Go.Proofs.YtgoajalaomakpaaGreat
open Go Go.RowKit

/-- How a round ends. -/
def postY (B : Nat) (Z : World → Prop) (W : World) : Exit → Act → World → Prop
  | .normal, _, W' => KeepsFrom B W W' ∧ Z W'
  | _, _, _ => False

/-- What an iterator is given: at each place where Y holds it may hand out the element, and Z holds behind it; the loop's own blocks l and D are left alone. -/
structure Hands {γ : Type} (P : Program) (l D : Nat) (enc : γ → Value) (Y Z : γ → World → Prop) (R : World → Prop) : Prop where
  keep : ∀ {W W' : World} {S : Nat → Prop}, R W → Upd S W W' → ¬ S l → ¬ S D → R W'
  cell : ∀ {W : World} {b : Nat} {t : TypeId} {cs : List Value}, R W → Blk W b t cs → b ≠ l ∧ b ≠ D
  hand : ∀ x W, Y x W → R W → YieldAt Fence.wide 3 P l #[enc x] W fun e W' => e = .returned (.bool true) ∧ Z x W' ∧ R W'

/-- It stands where the loop's record is turned. -/
def Turned {β : Type} (l : Nat) (I : β → World → Prop) : Prop := ∀ x W W', I x W → (∃ r, W.heap[l]? = some (.loop r)) → Upd (· = l) W W' → I x W'
theorem Turned.and {β : Type} {l : Nat} {I J : β → World → Prop} (h : Turned l I) (k : Turned l J) : Turned l (fun x W => I x W ∧ J x W) := fun x W W' hi hl u => ⟨h x W W' hi.1 hl u, k x W W' hi.2 hl u⟩

section
variable {P : Program} {Q : Exit → Act → World → Prop} {N : Nat} {ds : List Deferred} {L : Slots} {w : World}

theorem c_rangeY {γ : Type} {go : Operand} {p : Nat} {assign body : Code} {gf : Nat} {lb : List Value} {enc : γ → Value} (ho : Own P gf)
    (hp : Nat.blt p N = true) (hg : ev L go = some (.func (.func gf) #[] lb.toArray))
    (Y Z : γ → World → Prop) (E : World → Prop) (hYo : Turned (w.heap.size + 1) Y) (hZo : Turned (w.heap.size + 1) Z) (hEo : Turned (w.heap.size + 1) (fun (_ : Unit) W => E W))
    (hiter : ∀ (l D : Nat) (R : World → Prop) (W : World), D = w.heap.size → l = w.heap.size + 1 → W.heap.size = w.heap.size + 2 → Ext w W → Hands P l D enc Y Z R → R W →
      CallsV P gf (.func (.yield l) #[] #[] :: lb) W (fun _ W' => E W' ∧ R W'))
    (La : γ → Slots)
    (hassign : ∀ (l : Nat) (x : γ) (W : World) (K : Act → World → Prop), Y x W → (∀ L', Sub (La x) L' → QK K N [] L' W) → WC (some l) P (Exit.then K (fun _ _ _ => False)) N [] assign ((p, enc x) :: L) W)
    (hbody : ∀ (l : Nat) (x : γ) (W : World), Y x W → WC (some l) P (postY w.heap.size (Z x) W) N [] body (La x) W)
    (hdone : ∀ (D : Nat) (W : World), w.heap.size ≤ D → E W → W.heap[D]? = some (.deferred (some [])) → QK (Q .normal) N (mark D :: ds) L W) :
    WC none P Q N ds (.rangeFunc go #[p] assign body) L w := by
  refine ⟨fun a ha => ?_⟩
  refine wpIn_rangeFunc (F := Fence.wide) (n := 3) fun fn hfn => ?_
  let rec_ : LoopState → Loop := fun st => { state := st, pending := none, fn, tmps := a.tmps, params := #[p], assign, body, defers := w.heap.size }
  have hsz : ((w.alloc (.deferred (some []))).alloc (.loop (rec_ .ready))).heap.size = w.heap.size + 2 := by simp
  have hD1 : ((w.alloc (.deferred (some []))).alloc (.loop (rec_ .ready))).heap[w.heap.size]? = some (.deferred (some [])) :=
    ((Upd.alloc (w.alloc (.deferred (some []))) (.loop (rec_ .ready))).block _ (by simp) id).trans (World.alloc_heap_new w _)
  have hL1 : ((w.alloc (.deferred (some []))).alloc (.loop (rec_ .ready))).heap[w.heap.size + 1]? = some (.loop (rec_ .ready)) := by
    have := World.alloc_heap_new (w.alloc (.deferred (some []))) (.loop (rec_ .ready)); rwa [World.size_alloc] at this
  have hE1 : Ext w ((w.alloc (.deferred (some []))).alloc (.loop (rec_ .ready))) := (Upd.alloc _ _).trans (Upd.alloc _ _)
  refine ⟨w.heap.size + 1, [{ target := .collected w.heap.size, args := #[] }], (w.alloc (.deferred (some []))).alloc (.loop (rec_ .ready)), { target := .fn (.func gf) lb.toArray, args := #[.func (.yield (w.heap.size + 1)) #[] #[]] }, (w.alloc (.deferred (some []))).alloc (.loop (rec_ .ready)), gf,
    #[.func (.yield (w.heap.size + 1)) #[] #[]] ++ lb.toArray, (w.alloc (.deferred (some []))).alloc (.loop (rec_ .ready)), ?_, ?_, fun _ _ => trivial, ?_, fun _ => by decide, ?_⟩
  · exact run_enterLoop_outer _ _ _ _ _
  · simp only [resolve, ha.ev hg]
    simp [go_sem]
  · simp [invoke, go_sem, ho.run]
  · have hH : Hands P (w.heap.size + 1) w.heap.size enc Y Z (fun W => W.heap[w.heap.size + 1]? = some (.loop (rec_ .ready)) ∧ W.heap[w.heap.size]? = some (.deferred (some []))) := by
      refine ⟨fun {W W' S} h u h1 h2 => ⟨(u.block _ (lt_of_block h.1) h1).trans h.1, (u.block _ (lt_of_block h.2) h2).trans h.2⟩, fun {W b t cs} h hb => ⟨fun e => ?_, fun e => ?_⟩, ?_⟩
      · subst e; unfold Blk at hb; rw [h.1] at hb; cases hb
      · subst e; unfold Blk at hb; rw [h.2] at hb; cases hb
      rintro x W hy ⟨hl, hd⟩
      have hyl := run_yield (P := P) (args := #[enc x]) hl rfl
      refine ⟨fn, _, assign, body, hyl, roundIn_of_wpIn (F := Fence.wide) (n := 3) hfn ?_⟩
      have hk : Kn N [] ((p, enc x) :: L) { tmps := (#[p].zip #[enc x]).foldl (fun t (p, v) => t.setIfInBounds p v) a.tmps, defers := [] } := by
        have h1 : Kn N [] L { a with defers := [] } := ⟨ha.size, rfl, ha.get⟩
        have h2 := h1.put (enc x) hp
        refine ⟨by simpa [Act.put] using h2.size, rfl, fun k v hv => ?_⟩
        have := h2.get k v hv
        simpa [Act.put] using this
      refine hassign (w.heap.size + 1) x W _ hy (fun L' hs => ⟨fun a' ha' => ?_⟩) _ hk
      have hlt := lt_of_block hl
      refine ⟨_, run_beginRound hl rfl, ?_⟩
      have hl2 : (W.putObj (w.heap.size + 1) (.loop { rec_ .ready with state := .busy })).heap[w.heap.size + 1]? = some (.loop { rec_ .ready with state := .busy }) := World.putObj_heap_same hlt
      have hd2 : (W.putObj (w.heap.size + 1) (.loop { rec_ .ready with state := .busy })).heap[w.heap.size]? = some (.deferred (some [])) := (World.putObj_heap_other (by omega)).trans hd
      refine wpIn_mono (hbody (w.heap.size + 1) x _ (hYo _ _ _ hy ⟨_, hl⟩ (Upd.putObj _ _ _)) a' (ha'.sub hs)) ?_
      rintro e a3 W3 hp3
      cases e with
      | normal =>
        obtain ⟨hk3, hz⟩ := hp3
        have hl3 := hk3.same _ _ (by omega) hl2 rfl
        have hd3 := hk3.same _ _ (Nat.le_refl _) hd2 rfl
        exact ⟨_, _, run_endRound none hl3, rfl, hZo _ _ _ hz ⟨_, hl3⟩ (Upd.putObj _ _ _), World.putObj_heap_same (lt_of_block hl3), (World.putObj_heap_other (by omega)).trans hd3⟩
      | ret => exact hp3.elim
      | exit id => exact hp3.elim
      | goto t => exact hp3.elim
      | panic ch => exact hp3.elim
      | outgrown => exact hp3.elim
    have hc := hiter (w.heap.size + 1) w.heap.size _ _ rfl rfl hsz hE1 hH ⟨hL1, hD1⟩
    have e0 : (#[Value.func (.yield (w.heap.size + 1)) #[] #[]] ++ lb.toArray : Array Value) = (Value.func (.yield (w.heap.size + 1)) #[] #[] :: lb).toArray := by simp
    rw [e0]
    refine callsIn_wide.2 (Calls.mono hc ?_)
    rintro e W2 ⟨v, rfl, hE, hl, hd⟩
    refine ⟨none, _, run_endLoop hl (by simp [rec_]), ?_⟩
    refine hdone w.heap.size _ (Nat.le_refl _) (hEo () _ _ hE ⟨_, hl⟩ (Upd.putObj _ _ _)) ((World.putObj_heap_other (by omega)).trans hd) _ ⟨ha.size, ?_, ha.get⟩
    simp [ha.defers, mark]
end

theorem Blk.notLoop {w : World} {b l : Nat} {t : TypeId} {cs : List Value} (h : Blk w b t cs) (hl : ∃ r, w.heap[l]? = some (.loop r)) : b ≠ l := fun e => by
  subst e; obtain ⟨r, hl⟩ := hl; unfold Blk at h; rw [hl] at h; cases h
theorem Sl.notLoop {α : Type} [Inhabited α] {enc : α → List Value} {k : Nat} (hk : ∀ x, 0 < (enc x).length) {w : World} {ao : Option Addr} {b o l : Nat} {xs : List α} (h : Sl enc k w ao b o xs) (hl : ∃ r, w.heap[l]? = some (.loop r)) (hp : 0 < xs.length) : b ≠ l := fun e => by
  subst e; obtain ⟨r, hl⟩ := hl
  have h1 := h.at_ 0 hp 0 _ (List.getElem?_eq_getElem (hk _))
  simp [World.cell?, hl] at h1
end Go.Proofs.YtgoajalaomakpaaGreat
