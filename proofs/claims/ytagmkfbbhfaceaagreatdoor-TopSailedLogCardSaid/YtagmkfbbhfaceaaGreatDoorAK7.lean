/-
  Part 7 of the proof: contracts and plain laws. Conditions: none.
-/
import Derived.Test.YtagmkfbbhfaceaaGreatDoorAK6
namespace Go.Proofs.YtagmkfbbhfaceaaGreatDoor
open Go Go.RowKit Go.Proofs.Tryz
set_option maxRecDepth 10000
/-! ### entries -/
structure Ent where
  m : Int
  k : Int
  h : Int
  p : Int
  b : Int
  t : Int
instance : Inhabited Ent := ⟨⟨0, 0, 0, 0, 0, 0⟩⟩
def plK (k : Int) : Bool := decide (k = 1 ∨ k = 3)
def okEnt (x : Ent) : Bool := decide ((0 ≤ x.m ∧ x.m ≤ 1000000) ∧ (1 ≤ x.h ∧ x.h ≤ 999) ∧ (1 ≤ x.k ∧ x.k ≤ 4) ∧ (((x.k = 1 ∨ x.k = 3) ∧ (0 ≤ x.p ∧ x.p ≤ 100000) ∧ x.b = 0 ∧ x.t = 0) ∨ (¬ (x.k = 1 ∨ x.k = 3) ∧ x.p = 0 ∧ (1 ≤ x.b ∧ x.b ≤ 9999) ∧ (1 ≤ x.t ∧ x.t ≤ 100000))))
theorem okEnt_iff {x : Ent} (h : okEnt x = true) : (0 ≤ x.m ∧ x.m ≤ 1000000) ∧ (1 ≤ x.h ∧ x.h ≤ 999) ∧ (1 ≤ x.k ∧ x.k ≤ 4) ∧ (0 ≤ x.p ∧ x.p ≤ 100000) ∧ (0 ≤ x.b ∧ x.b ≤ 9999) ∧ (0 ≤ x.t ∧ x.t ≤ 100000) ∧ (¬ (x.k = 1 ∨ x.k = 3) → 1 ≤ x.b ∧ 1 ≤ x.t) := by
  unfold okEnt at h; rw [decide_eq_true_eq] at h; omega
def chkG (m : Int) : List Ent → Int
  | [] => 0
  | x :: r => if okEnt x = true then (if x.m < m then 9 else chkG x.m r) else 2
def chkE (l : List Ent) : Int := if l.length = 0 then 4 else if 2000 < l.length then 5 else chkG 0 l
def lastM (m : Int) : List Ent → Int
  | [] => m
  | x :: r => lastM x.m r
theorem lastM_snoc (x : Ent) : ∀ (l : List Ent) (m : Int), lastM m (l ++ [x]) = x.m
  | [], _ => rfl
  | y :: l, _ => lastM_snoc x l y.m
def entP (m : Int) (x : Ent) : List UInt8 := putP (x.k - 1).toNat 2 ++ codesP [x.m - m, x.h - 1] ++ (if plK x.k = true then codesP [x.p] else codesP [x.b - 1, x.t - 1])
def entsG (m : Int) : List Ent → List UInt8
  | [] => []
  | x :: r => entP m x ++ entsG x.m r
theorem entsG_snoc (x : Ent) : ∀ (l : List Ent) (m : Int), entsG m (l ++ [x]) = entsG m l ++ entP (lastM m l) x
  | [], m => by simp [entsG, lastM]
  | y :: l, m => by
    simp only [List.cons_append, entsG, lastM, entsG_snoc x l y.m, List.append_assoc]
def tapeP (l : List Ent) : List UInt8 := codesP [(l.length : Int) - 1] ++ entsG 0 l
def writeP (l : List Ent) : List Bk := fillP (tapeP l)
theorem chkG_cons {m : Int} {x : Ent} {r : List Ent} (h : chkG m (x :: r) = 0) : okEnt x = true ∧ m ≤ x.m ∧ chkG x.m r = 0 := by
  unfold chkG at h
  split at h
  · split at h
    · cases h
    · exact ⟨by assumption, by omega, h⟩
  · cases h
theorem chkG_take : ∀ {l : List Ent} {m : Int} (i : Nat), chkG m l = 0 → chkG m (l.take i) = 0
  | _, _, 0, _ => by simp [chkG]
  | [], _, _ + 1, _ => by simp [chkG]
  | x :: r, m, i + 1, h => by
    obtain ⟨h1, h2, h3⟩ := chkG_cons h
    rw [List.take_succ_cons]
    unfold chkG
    rw [if_pos h1, if_neg (by omega)]
    exact chkG_take i h3
theorem chkG_at : ∀ {l : List Ent} {m : Int} {i : Nat}, chkG m l = 0 → i < l.length → okEnt (nth l i) = true ∧ lastM m (l.take i) ≤ (nth l i).m
  | x :: r, m, 0, h, _ => by
    obtain ⟨h1, h2, h3⟩ := chkG_cons h
    exact ⟨h1, h2⟩
  | x :: r, m, i + 1, h, hi => by
    obtain ⟨h1, h2, h3⟩ := chkG_cons h
    have := chkG_at (i := i) h3 (by simpa using hi)
    exact ⟨by simpa [nth] using this.1, by simpa [nth, lastM] using this.2⟩
theorem lastM_ge : ∀ {l : List Ent} {m : Int}, chkG m l = 0 → m ≤ lastM m l
  | [], _, _ => Int.le_refl _
  | x :: r, m, h => by
    obtain ⟨_, h2, h3⟩ := chkG_cons h
    have := lastM_ge h3
    show m ≤ lastM x.m r
    omega
theorem codesP_one (z : Int) : codesP [z] = codeP z.toNat := by simp [codesP]
theorem entP_len {m : Int} {x : Ent} (hx : okEnt x = true) (hm : m ≤ x.m) (h0 : 0 ≤ m) : (entP m x).length ≤ 238 := by
  have h := okEnt_iff hx
  have h1 : (codesP [x.m - m, x.h - 1]).length ≤ 59 * 2 := codesP_len (l := [x.m - m, x.h - 1]) (by simp; omega)
  have h2 : (codesP [x.p]).length ≤ 59 * 1 := codesP_len (l := [x.p]) (by simp; omega)
  unfold entP
  rw [List.length_append, List.length_append, putP_length]
  split
  · omega
  · rename_i hk
    have hk2 : ¬ (x.k = 1 ∨ x.k = 3) := by simpa [plK] using hk
    have h3 : (codesP [x.b - 1, x.t - 1]).length ≤ 59 * 2 := codesP_len (l := [x.b - 1, x.t - 1]) (by have := h.2.2.2.2.2.2 hk2; simp; omega)
    omega
theorem entsG_len : ∀ {l : List Ent} {m : Int}, chkG m l = 0 → 0 ≤ m → (entsG m l).length ≤ 238 * l.length
  | [], _, _, _ => Nat.zero_le _
  | x :: r, m, h, h0 => by
    obtain ⟨h1, h2, h3⟩ := chkG_cons h
    have q1 := entP_len h1 h2 h0
    have q2 := entsG_len h3 (by omega)
    simp only [entsG, List.length_append, List.length_cons]; omega
theorem chkE_ok {l : List Ent} (h : chkE l = 0) : 1 ≤ l.length ∧ l.length ≤ 2000 ∧ chkG 0 l = 0 := by
  unfold chkE at h
  split at h
  · cases h
  · split at h
    · cases h
    · exact ⟨by omega, by omega, h⟩
theorem tapeP_len {l : List Ent} (h : chkE l = 0) : (tapeP l).length ≤ 59 + 238 * l.length := by
  obtain ⟨h1, h2, h3⟩ := chkE_ok h
  have q1 : (codesP [(l.length : Int) - 1]).length ≤ 59 * 1 := codesP_len (l := [(l.length : Int) - 1]) (by simp; omega)
  have q2 := entsG_len h3 (Int.le_refl 0)
  unfold tapeP; rw [List.length_append]; omega
theorem codesP_bits {l : List Int} : ∀ c ∈ codesP l, c = 48 ∨ c = 49 := fun c h => by
  unfold codesP at h
  obtain ⟨z, _, hc⟩ := List.mem_flatMap.1 h
  exact putP_bits _ _ c hc
theorem entP_bits {m : Int} {x : Ent} : ∀ c ∈ entP m x, c = 48 ∨ c = 49 := fun c h => by
  unfold entP at h
  rcases List.mem_append.1 h with h | h
  · rcases List.mem_append.1 h with h | h
    · exact putP_bits _ _ c h
    · exact codesP_bits c h
  · split at h <;> exact codesP_bits c h
theorem entsG_bits : ∀ {l : List Ent} {m : Int}, ∀ c ∈ entsG m l, c = 48 ∨ c = 49
  | [], _, c, h => by cases h
  | x :: r, m, c, h => by
    rcases List.mem_append.1 h with h | h
    · exact entP_bits c h
    · exact entsG_bits c h
theorem tapeP_bits {l : List Ent} : ∀ c ∈ tapeP l, c = 48 ∨ c = 49 := fun c h => by
  rcases List.mem_append.1 h with h | h
  · exact codesP_bits c h
  · exact entsG_bits c h
/-- the bytes of blocks -/
def bytesP (v : List Bk) : List UInt8 := v.flatMap Bk.l
theorem bytesP_snoc (v : List Bk) (b : Bk) : bytesP (v ++ [b]) = bytesP v ++ b.l := by unfold bytesP; rw [List.flatMap_append]; simp
theorem bytesP_len : ∀ (v : List Bk), (bytesP v).length = 32 * v.length
  | [] => rfl
  | b :: v => by
    have e : bytesP (b :: v) = b.l ++ bytesP v := rfl
    rw [e, List.length_append, b.h, bytesP_len v, List.length_cons]; omega
theorem fillP_len {t : List UInt8} : (fillP t).length ≤ t.length + 3 ∧ 1 ≤ (fillP t).length := by
  have h1 := fsP_len t
  have h2 := nextF_len (fsP t)
  have h3 : 1 ≤ (nextF (fsP t)).v.length := by unfold nextF; split <;> simp
  unfold fillP endF
  split
  · rw [List.length_append]; simp only [List.length_cons, List.length_nil]; omega
  · omega
def encEnt (x : Ent) : List Value := [.int .i64 x.m, .int .i64 x.k, .int .i64 x.h, .int .i64 x.p, .int .i64 x.b, .int .i64 x.t]
theorem isPlace_c (k : Int) (w0 : World) :
    CallsV Tryz.prog 73 [.int .i64 k] w0 (fun v w' => v = .bool (plK k) ∧ Ext w0 w') := by
 refine f_n func73 ?_
 refine go ?_
 refine t_splitp 5 rfl (fun g5 => ?_) (fun g5 => ?_)
 ·
  refine go ?_
  refine f_1 results73 ?_
  exact ⟨by simp [plK, *], u_d⟩
 refine go ?_
 refine f_1 results73 ?_
 exact ⟨by simp [plK, *], u_d⟩

set_option maxHeartbeats 4000000 in
theorem isEntry_c (x : Ent) (w0 : World) :
    CallsV Tryz.prog 70 [.agg #[.int .i64 x.m, .int .i64 x.k, .int .i64 x.h, .int .i64 x.p, .int .i64 x.b, .int .i64 x.t]] w0 (fun v w' => v = .bool (okEnt x) ∧ Ext w0 w') := by
 refine f_n func70 ?_
 refine go ?_
 refine x_b fun bk2 w3 ebk2 sbk2 B4 u5 => ?_
 refine go ?_
 refine x_l fun bk9 w10 ebk9 sbk9 B11 u12 => ?_
 refine x_c func108 rfl rfl (within1_v 0 1000000 x.m bk9 _ _ B11) ?_
 rintro _ w15 ⟨rfl, u16⟩ zu16
 refine go ?_
 refine t_splitp 8 rfl (fun g8 => ?_) (fun g8 => ?_)
 ·
  refine go ?_
  refine f_1 results70 ?_
  exact ⟨congrArg Value.bool (by unfold okEnt; first | exact (decide_eq_false (by omega)).symm | exact (decide_eq_true (by omega)).symm | exact decide_eq_decide.2 (by omega)), u_d⟩
 refine go ?_
 refine x_l fun bk20 w21 ebk20 sbk20 B22 u23 => ?_
 refine x_c func108 rfl rfl (within1_v 1 999 x.h bk20 _ _ B22) ?_
 rintro _ w26 ⟨rfl, u27⟩ zu27
 refine go ?_
 refine t_splitp 15 rfl (fun g15 => ?_) (fun g15 => ?_)
 ·
  refine go ?_
  refine f_1 results70 ?_
  exact ⟨congrArg Value.bool (by unfold okEnt; first | exact (decide_eq_false (by omega)).symm | exact (decide_eq_true (by omega)).symm | exact decide_eq_decide.2 (by omega)), u_d⟩
 refine go ?_
 refine t_splitp 20 rfl (fun g20 => ?_) (fun g20 => ?_)
 ·
  refine go ?_
  refine f_1 results70 ?_
  exact ⟨congrArg Value.bool (by unfold okEnt; first | exact (decide_eq_false (by omega)).symm | exact (decide_eq_true (by omega)).symm | exact decide_eq_decide.2 (by omega)), u_d⟩
 refine go ?_
 refine q_p (fun g24 => ?_) fun g24 => ?_
 ·
  refine go ?_
  refine f_1 results70 ?_
  exact ⟨congrArg Value.bool (by unfold okEnt; first | exact (decide_eq_false (by omega)).symm | exact (decide_eq_true (by omega)).symm | exact decide_eq_decide.2 (by omega)), u_d⟩
 refine go ?_
 refine x_c func73 rfl rfl (isPlace_c x.k _) ?_
 rintro _ w36 ⟨rfl, u37⟩ zu37
 refine go ?_
 refine q_b (fun g27 => ?_) fun g27 => ?_
 ·
  have hk9 : (x.k = 1 ∨ x.k = 3) := by simpa [plK] using g27
  refine go ?_
  refine x_l fun bk41 w42 ebk41 sbk41 B43 u44 => ?_
  refine x_c func108 rfl rfl (within1_v 0 100000 x.p bk41 _ _ B43) ?_
  rintro _ w47 ⟨rfl, u48⟩ zu48
  refine go ?_
  refine t_splitp 32 rfl (fun g32 => ?_) (fun g32 => ?_)
  ·
   refine go ?_
   refine t_splitp 37 rfl (fun g37 => ?_) (fun g37 => ?_)
   ·
    refine go ?_
    refine f_1 results70 ?_
    exact ⟨congrArg Value.bool (by unfold okEnt; first | exact (decide_eq_false (by omega)).symm | exact (decide_eq_true (by omega)).symm | exact decide_eq_decide.2 (by omega)), u_d⟩
   refine go ?_
   refine f_1 results70 ?_
   exact ⟨congrArg Value.bool (by unfold okEnt; first | exact (decide_eq_false (by omega)).symm | exact (decide_eq_true (by omega)).symm | exact decide_eq_decide.2 (by omega)), u_d⟩
  refine go ?_
  refine f_1 results70 ?_
  exact ⟨congrArg Value.bool (by unfold okEnt; first | exact (decide_eq_false (by omega)).symm | exact (decide_eq_true (by omega)).symm | exact decide_eq_decide.2 (by omega)), u_d⟩
 have hk9 : ¬ (x.k = 1 ∨ x.k = 3) := by simpa [plK] using g27
 refine go ?_
 refine t_splitp 45 rfl (fun g45 => ?_) (fun g45 => ?_)
 ·
  refine go ?_
  refine x_l fun bk52 w53 ebk52 sbk52 B54 u55 => ?_
  refine x_c func108 rfl rfl (within1_v 1 9999 x.b bk52 _ _ B54) ?_
  rintro _ w58 ⟨rfl, u59⟩ zu59
  refine go ?_
  refine t_splitp 51 rfl (fun g51 => ?_) (fun g51 => ?_)
  ·
   refine go ?_
   refine x_l fun bk62 w63 ebk62 sbk62 B64 u65 => ?_
   refine x_c func108 rfl rfl (within1_v 1 100000 x.t bk62 _ _ B64) ?_
   rintro _ w68 ⟨rfl, u69⟩ zu69
   refine go ?_
   refine f_1 results70 ?_
   exact ⟨congrArg Value.bool (by unfold okEnt; first | exact (decide_eq_false (by omega)).symm | exact (decide_eq_true (by omega)).symm | exact decide_eq_decide.2 (by omega)), u_d⟩
  refine go ?_
  refine f_1 results70 ?_
  exact ⟨congrArg Value.bool (by unfold okEnt; first | exact (decide_eq_false (by omega)).symm | exact (decide_eq_true (by omega)).symm | exact decide_eq_decide.2 (by omega)), u_d⟩
 refine go ?_
 refine f_1 results70 ?_
 exact ⟨congrArg Value.bool (by unfold okEnt; first | exact (decide_eq_false (by omega)).symm | exact (decide_eq_true (by omega)).symm | exact decide_eq_decide.2 (by omega)), u_d⟩

theorem checkEntries_c (l : List Ent) (al : Option Addr) (bl ol cl : Nat) (w0 : World) (hl : Sl encEnt 6 w0 al bl ol l) (hll : l.length ≤ 1000000000) :
    CallsV Tryz.prog 29 [.slice al l.length cl] w0 (fun v w' => v = .int .i64 (chkE l) ∧ Ext w0 w') := by
 refine f_n func29 ?_
 refine go ?_
 refine q_p (fun g6 => ?_) fun g6 => ?_
 ·
  refine go ?_
  refine f_1 results29 ?_
  exact ⟨by unfold chkE; rw [if_pos (by omega)], u_d⟩
 refine go ?_
 refine q_p (fun g10 => ?_) fun g10 => ?_
 ·
  refine go ?_
  refine f_1 results29 ?_
  exact ⟨by unfold chkE; rw [if_neg (by omega), if_pos (by omega)], u_d⟩
 refine go ?_
 refine x_l2 (fun _ => False) [14, 15] (fun (i : Nat) (m : Int) => [(3, .int .i64 m), (16, .int .i64 (i : Int))]) (fun i m w => (i ≤ l.length) ∧ (chkG m (l.drop i) = chkG 0 l)) (fun i m => l.length - i) 0 0 ⟨(Nat.zero_le _), rfl⟩ ?_
 rintro i m w11 ⟨hi, hc⟩ u12 zu12 K10 hK10
 refine go ?_
 refine q_p (fun g17 => ?_) fun g17 => ?_
 ·
  refine go ?_
  refine g_i i (hl.keep ((Upd.refl (fun _ => False) w0).nx u12) (fun _ h => h)) (fun _ => ?_)
  refine go ?_
  refine x_n fun bk19 w20 ebk19 sbk19 B21 u22 => ?_
  refine x_s fun w24 sw24 B26 u25 => ?_
  refine go ?_
  refine x_c func70 rfl rfl (isEntry_c (nth l i) _) ?_
  rintro _ w31 ⟨rfl, u32⟩ zu32
  refine go ?_
  refine q_b (fun g20 => ?_) fun g20 => ?_
  ·
   refine go ?_
   refine f_1 results29 ?_
   have he : chkE l = chkG 0 l := by unfold chkE; rw [if_neg (by omega), if_neg (by omega)]
   have g22 : okEnt (nth l i) = false := by cases h9 : okEnt (nth l i) <;> simp [h9] at g20 ⊢
   exact ⟨by rw [he, ← hc, drop_nth (by omega)]; unfold chkG; rw [if_neg (by rw [g22]; decide)], u_d⟩
  have g22 : okEnt (nth l i) = true := by cases h9 : okEnt (nth l i) <;> simp [h9] at g20 ⊢
  refine go ?_
  refine q_p (fun g24 => ?_) fun g24 => ?_
  ·
   refine go ?_
   refine f_1 results29 ?_
   have he : chkE l = chkG 0 l := by unfold chkE; rw [if_neg (by omega), if_neg (by omega)]
   exact ⟨by rw [he, ← hc, drop_nth (by omega)]; unfold chkG; rw [if_pos g22, if_pos (by omega)], u_d⟩
  refine go ?_
  exact hK10 (i + 1) ((nth l i).m) ⟨(by omega), (by rw [drop_nth (by omega)] at hc; rw [← hc]; conv => rhs; unfold chkG; rw [if_pos g22, if_neg (by omega)])⟩
 refine go ?_
 refine f_1 results29 ?_
 have he : chkE l = chkG 0 l := by unfold chkE; rw [if_neg (by omega), if_neg (by omega)]
 exact ⟨by rw [he, ← hc, List.drop_of_length_le (by omega)]; rfl, u_d⟩

set_option maxHeartbeats 4000000 in
theorem write_c (l : List Ent) (al : Option Addr) (bl ol cl : Nat) (w0 : World) (hl : Sl encEnt 6 w0 al bl ol l) (hok0 : chkE l = 0) :
    CallsV Tryz.prog 30 [.slice al l.length cl] w0 (fun v w' => (∃ a9 g9 c9, v = .slice a9 (writeP l).length c9 ∧ Acc encBk 32 111 w0.heap.size w' a9 g9 c9 (writeP l)) ∧ Ext w0 w') := by
 obtain ⟨hl1, hl2, hok⟩ := chkE_ok hok0
 have hc0 : (codesP [(l.length : Int) - 1]).length ≤ 59 := by have h9 := codesP_len (l := [(l.length : Int) - 1]) (by simp; omega); simpa using h9
 refine f_n func30 ?_
 refine go ?_
 refine x_n fun bk3 w4 ebk3 sbk3 B5 u6 => ?_
 have hN8 : Acc encY 1 5 w4.heap.size w4 none 0 0 ([] : List UInt8) := Acc.nil _ _ _ _ _ (by omega) (Nat.le_refl _)
 have lt_0 := hN8.lt
 refine go ?_
 refine x_l fun bk10 w11 ebk10 sbk10 B12 u13 => ?_
 have D16 := (hN8.keep u13 (fun _ h => h))
 have B17 := (B5.kx u13)
 refine x_c func71 rfl rfl (code_c ([((l.length : Int) - 1)] : List Int) (some ⟨bk10, 0, none⟩) bk10 0 1 bk3 w4.heap.size none 0 0 ([] : List UInt8) _ B17 D16 (by omega) (by omega) (SlI.own (xs := ([((l.length : Int) - 1)] : List Int)) B12) (by omega) (by simp; omega) (by first | (simp only [List.length_cons, List.length_nil]; omega) | (simp only [List.length_append, List.length_cons, List.length_nil, putP_length] at *; omega) | (have h7 := codesP_len (l := [(nth l j).m - (lastM 0 (l.take j)), (nth l j).h - 1]) (by simp; omega); simp only [List.length_append, List.length_cons, List.length_nil, putP_length] at *; omega))) ?_
 rintro v18 w19 ⟨⟨at15, gt15, ct15, hBt15, hAt15, hGt15⟩, u20⟩ zu20
 have lt_gt15 := hAt15.lt
 refine go ?_
 refine x_l5 (fun i => i = bk3 ∨ (i = gt15 ∧ w4.heap.size ≤ i)) [3, 12, 13] (fun (j : Nat) (a1 : Option Addr) (g1 : Nat) (c1 : Nat) (cur : List UInt8) => [(4, .int .i64 (lastM 0 (l.take j))), (14, .int .i64 (j : Int))]) (fun j a1 g1 c1 cur w => Blk w bk3 118 [.slice a1 cur.length c1] ∧ (j ≤ l.length) ∧ (Acc encY 1 5 w4.heap.size w a1 g1 c1 cur) ∧ (cur = (codesP [(l.length : Int) - 1]) ++ entsG 0 (l.take j)) ∧ ((g1 = gt15 ∨ w19.heap.size ≤ g1))) (fun j a1 g1 c1 cur => l.length - j) 0 at15 gt15 ct15 (([] : List UInt8) ++ codesP ([((l.length : Int) - 1)] : List Int)) ⟨hBt15, (Nat.zero_le _), hAt15, (by simp [entsG]), (.inl rfl)⟩ ?_
 rintro j a1 g1 c1 cur w27 ⟨I29, hi, hA, hcu, hg1⟩ u28 zu28 K26 hK26
 have lt_g1 := hA.lt
 have hlen1 := entsG_len (chkG_take j hok) (Int.le_refl 0)
 rw [List.length_take, Nat.min_eq_left hi] at hlen1
 have hcl := congrArg List.length hcu
 simp only [List.length_append] at hcl
 refine go ?_
 refine q_p (fun g15 => ?_) fun g15 => ?_
 ·
  obtain ⟨hx0, hasc⟩ := chkG_at hok (show j < l.length by omega)
  have hx := okEnt_iff hx0
  obtain ⟨x1, x2, x3, x4, x5, x6, x7⟩ := hx
  have hm0 : 0 ≤ (lastM 0 (l.take j)) := lastM_ge (chkG_take j hok)
  refine go ?_
  refine g_i j (hl.keep (((((Upd.refl (fun _ => False) w0).nx u6).nx u13).next u20 (fun i hi h => by omega)).next u28 (fun i hi h => by omega)) (fun _ h => h)) (fun _ => ?_)
  refine go ?_
  refine x_n fun bk36 w37 ebk36 sbk36 B38 u39 => ?_
  refine x_s fun w41 sw41 B43 u42 => ?_
  iterate 7 refine st1 ?_
  refine t_same 20 (v := .int .i64 (((nth l j).k - 1).toNat : Int)) rfl (congrArg (Value.int .i64) (by omega)) (t_conv underlying39 underlying175 rfl rfl rfl (IntWalk.u64_in _ (by omega)) ?_)
  have D47 := ((hA.keep u39 (fun _ h => h)).keep u42 (fun hb => show ¬ (g1 = bk36) by first | omega | assumption))
  have B48 := ((I29.kx u39).keep u42 (by omega))
  refine x_c func72 rfl rfl (put_c (((nth l j).k - 1).toNat) 2 bk3 w4.heap.size a1 g1 c1 cur _ B48 D47 (by omega) (by omega) (by omega) (by decide) (by simp only [List.length_append] at *; omega)) ?_
  rintro v49 w50 ⟨⟨at46, gt46, ct46, hBt46, hAt46, hGt46⟩, u51⟩ zu51
  have lt_gt46 := hAt46.lt
  refine go ?_
  refine x_l fun bk55 w56 ebk55 sbk55 B57 u58 => ?_
  have D61 := (hAt46.keep u58 (fun _ h => h))
  have B62 := (hBt46.kx u58)
  refine x_c func71 rfl rfl (code_c ([(((nth l j).m) - (lastM 0 (l.take j))), (((nth l j).h) - 1)] : List Int) (some ⟨bk55, 0, none⟩) bk55 0 2 bk3 w4.heap.size at46 gt46 ct46 (cur ++ putP (((nth l j).k - 1).toNat) 2) _ B62 D61 (by omega) (by omega) (SlI.own (xs := ([(((nth l j).m) - (lastM 0 (l.take j))), (((nth l j).h) - 1)] : List Int)) B57) (by omega) (by simp; omega) (by first | (simp only [List.length_cons, List.length_nil]; omega) | (simp only [List.length_append, List.length_cons, List.length_nil, putP_length] at *; omega) | (have h7 := codesP_len (l := [(nth l j).m - (lastM 0 (l.take j)), (nth l j).h - 1]) (by simp; omega); simp only [List.length_append, List.length_cons, List.length_nil, putP_length] at *; omega))) ?_
  rintro v63 w64 ⟨⟨at60, gt60, ct60, hBt60, hAt60, hGt60⟩, u65⟩ zu65
  have lt_gt60 := hAt60.lt
  refine go ?_
  refine x_c func73 rfl rfl (isPlace_c ((nth l j).k) _) ?_
  rintro _ w71 ⟨rfl, u72⟩ zu72
  refine go ?_
  refine q_b (fun g36 => ?_) fun g36 => ?_
  ·
   have hk9 : ((nth l j).k = 1 ∨ (nth l j).k = 3) := by simpa [plK] using g36
   refine go ?_
   refine x_l fun bk75 w76 ebk75 sbk75 B77 u78 => ?_
   have D81 := ((hAt60.keep u72 (fun _ h => h)).keep u78 (fun _ h => h))
   have B82 := ((hBt60.kx u72).kx u78)
   refine x_c func71 rfl rfl (code_c ([(nth l j).p] : List Int) (some ⟨bk75, 0, none⟩) bk75 0 1 bk3 w4.heap.size at60 gt60 ct60 ((cur ++ putP (((nth l j).k - 1).toNat) 2) ++ codesP ([(((nth l j).m) - (lastM 0 (l.take j))), (((nth l j).h) - 1)] : List Int)) _ B82 D81 (by omega) (by omega) (SlI.own (xs := ([(nth l j).p] : List Int)) B77) (by omega) (by simp; omega) (by first | (simp only [List.length_cons, List.length_nil]; omega) | (simp only [List.length_append, List.length_cons, List.length_nil, putP_length] at *; omega) | (have h7 := codesP_len (l := [(nth l j).m - (lastM 0 (l.take j)), (nth l j).h - 1]) (by simp; omega); simp only [List.length_append, List.length_cons, List.length_nil, putP_length] at *; omega))) ?_
   rintro v83 w84 ⟨⟨at80, gt80, ct80, hBt80, hAt80, hGt80⟩, u85⟩ zu85
   have lt_gt80 := hAt80.lt
   refine go ?_
   exact hK26 (j + 1) at80 gt80 ct80 (((cur ++ putP (((nth l j).k - 1).toNat) 2) ++ codesP ([(((nth l j).m) - (lastM 0 (l.take j))), (((nth l j).h) - 1)] : List Int)) ++ codesP ([(nth l j).p] : List Int)) ⟨hBt80, (by omega), hAt80, (by rw [take_nth (by omega), entsG_snoc, ← List.append_assoc, ← hcu]; unfold entP; rw [if_pos (by exact g36)]; simp only [List.append_assoc]), (by omega)⟩ (hs := by exact ⟨(congrArg (fun z => some (Value.int .i64 z)) (by rw [take_nth (by omega), lastM_snoc])), rfl, rfl, rfl, rfl, trivial⟩)
  have hk9 : ¬ ((nth l j).k = 1 ∨ (nth l j).k = 3) := by simpa [plK] using g36
  have x8 := x7 hk9
  refine go ?_
  refine x_l fun bk88 w89 ebk88 sbk88 B90 u91 => ?_
  have D94 := ((hAt60.keep u72 (fun _ h => h)).keep u91 (fun _ h => h))
  have B95 := ((hBt60.kx u72).kx u91)
  refine x_c func71 rfl rfl (code_c ([(((nth l j).b) - 1), (((nth l j).t) - 1)] : List Int) (some ⟨bk88, 0, none⟩) bk88 0 2 bk3 w4.heap.size at60 gt60 ct60 ((cur ++ putP (((nth l j).k - 1).toNat) 2) ++ codesP ([(((nth l j).m) - (lastM 0 (l.take j))), (((nth l j).h) - 1)] : List Int)) _ B95 D94 (by omega) (by omega) (SlI.own (xs := ([(((nth l j).b) - 1), (((nth l j).t) - 1)] : List Int)) B90) (by omega) (by simp; omega) (by first | (simp only [List.length_cons, List.length_nil]; omega) | (simp only [List.length_append, List.length_cons, List.length_nil, putP_length] at *; omega) | (have h7 := codesP_len (l := [(nth l j).m - (lastM 0 (l.take j)), (nth l j).h - 1]) (by simp; omega); simp only [List.length_append, List.length_cons, List.length_nil, putP_length] at *; omega))) ?_
  rintro v96 w97 ⟨⟨at93, gt93, ct93, hBt93, hAt93, hGt93⟩, u98⟩ zu98
  have lt_gt93 := hAt93.lt
  refine go ?_
  exact hK26 (j + 1) at93 gt93 ct93 (((cur ++ putP (((nth l j).k - 1).toNat) 2) ++ codesP ([(((nth l j).m) - (lastM 0 (l.take j))), (((nth l j).h) - 1)] : List Int)) ++ codesP ([(((nth l j).b) - 1), (((nth l j).t) - 1)] : List Int)) ⟨hBt93, (by omega), hAt93, (by rw [take_nth (by omega), entsG_snoc, ← List.append_assoc, ← hcu]; unfold entP; rw [if_neg (by rw [g36]; decide)]; simp only [List.append_assoc]), (by omega)⟩ (hs := by exact ⟨(congrArg (fun z => some (Value.int .i64 z)) (by rw [take_nth (by omega), lastM_snoc])), rfl, rfl, rfl, rfl, trivial⟩)
 have hcb : ∀ c ∈ cur, c = 48 ∨ c = 49 := by
   have h9 : j = l.length := by omega
   rw [h9, List.take_length] at hcu
   intro c hc
   rw [hcu] at hc
   exact tapeP_bits (l := l) c hc
 refine go ?_
 refine x_c func74 rfl rfl (fill_c cur a1 g1 0 c1 _ (hA.sl (fun _ => rfl)) hcb (by omega)) ?_
 rintro _ w103 ⟨⟨a9, g9, c9, rfl, hF9⟩, u104⟩ zu104
 have lt_g9 := hF9.lt
 refine go ?_
 refine f_1 results30 ?_
 have hil : j = l.length := by omega
 subst hil
 rw [List.take_length] at hcu
 have hcur : cur = tapeP l := hcu
 subst hcur
 exact ⟨⟨a9, g9, c9, rfl, hF9.lowP (Nat.lt_of_lt_of_le Nat.zero_lt_one fillP_len.2) (by omega)⟩, u_d⟩

end Go.Proofs.YtagmkfbbhfaceaaGreatDoor
namespace Go.Proofs.YtagmkfbbhfaceaaGreatDoor
open Go Go.RowKit Go.Proofs.Tryz
set_option maxRecDepth 10000
theorem bytes_c (v : List Bk) (av : Option Addr) (bv ov cv : Nat) (w0 : World) (hv : Sl encBk 32 w0 av bv ov v) (hvl : v.length ≤ 30000) (hpos : 0 < w0.heap.size) :
    CallsV Tryz.prog 31 [.slice av v.length cv] w0 (fun v' w' => (∃ a9 g9 c9, v' = .slice a9 (bytesP v).length c9 ∧ Acc encY 1 5 w0.heap.size w' a9 g9 c9 (bytesP v)) ∧ Ext w0 w') := by
 refine f_n func31 ?_
 refine go ?_
 refine x_l4 (fun _ => False) [5, 6] (fun (i : Nat) (a1 : Option Addr) (g1 : Nat) (c1 : Nat) => [(2, .slice a1 ((bytesP (v.take i)).length) c1), (7, .int .i64 (i : Int))]) (fun i a1 g1 c1 w => (i ≤ v.length) ∧ (Acc encY 1 5 w0.heap.size w a1 g1 c1 (bytesP (v.take i)))) (fun i a1 g1 c1 => v.length - i) 0 none 0 0 ⟨(Nat.zero_le _), (Acc.nil _ _ _ _ _ hpos (by omega))⟩ ?_
 rintro i a1 g1 c1 w5 ⟨hi, hA⟩ u6 zu6 K4 hK4
 have E7 := Sc.mk ((Upd.refl (fun _ => False) w0).nx u6)
 have lt_g1 := hA.lt
 have hbl := bytesP_len (v.take i)
 rw [List.length_take, Nat.min_eq_left hi] at hbl
 have hel := (nth v i).h
 refine go ?_
 refine q_p (fun g8 => ?_) fun g8 => ?_
 ·
  refine go ?_
  refine g_i i (hv.keep E7.u (fun _ h => h)) (fun _ => ?_)
  refine t_ldY (l := (nth v i).l) isAgg111 sizeOf111 rfl rfl rfl ((hv.keep E7.u (fun _ h => h)).at_ i (by omega)) (Bk.h (nth v i)) (t_alloc (cs := (ys (List.replicate 32 (0 : UInt8)))) zeroValue111 (by kernel_rfl) rfl rfl (fun bk13 w14 ebk13 sbk13 B15 u16 => ?_))
  refine t_stY sizeOf111 rfl rfl rfl B15 (Bk.h (nth v i)) (by rw [ys_length]; exact (by first | omega | simp | assumption)) (fun w18 sw18 B20 u19 => ?_)
  refine go ?_
  refine t_arrS 0 32 underlying111 sizeOf5 rfl rfl rfl (.inr ⟨rfl, rfl⟩) (k := .i64) (m := 0) (x1 := .tmp 0) (.inr ⟨rfl, rfl⟩) (k' := .i64) (q := 0) (x2 := .tmp 0) (by omega) (by omega) (by omega) (t_same 12 (v := .slice (some ⟨bk13, 0 + 0 * 1, none⟩) ((nth v i).l.length) 32) rfl (by rw [(nth v i).h]) ?_)
  have D22 := ((hA.keep u16 (fun _ h => h)).keep u19 (fun hb => show ¬ (g1 = bk13) by first | omega | assumption))
  refine t_appendAll (enc := encY) (z := .int .u8 0) (bytes := 1) (k := 1) (base := w0.heap.size) (xs := (bytesP (v.take i))) (ys := (nth v i).l) underlying24 (by kernel_rfl) rfl (by decide) (fun _ => rfl) (by intro x; simp [encY, Value.oneCell']) rfl rfl rfl rfl D22 (SlY.own B20) (by omega) (by omega) (by omega) (by decide) (fun ao23 gb24 cp25 w26 A27 u28 gegb24 lngb24 => ?_)
  have zu28 := u28.size
  have lt_gb24 := A27.lt
  refine go ?_
  exact hK4 (i + 1) ao23 gb24 cp25 ⟨(by omega), (by rw [take_nth (by omega), bytesP_snoc]; exact A27)⟩ (hs := by exact ⟨(congrArg some (by rw [take_nth (by omega), bytesP_snoc])), rfl, rfl, rfl, trivial⟩)
 refine go ?_
 refine f_1 results31 ?_
 have hiv : v.take i = v := List.take_of_length_le (by omega)
 exact ⟨⟨a1, g1, c1, by rw [hiv], by rw [hiv] at hA; exact hA⟩, u_d⟩

/-- the log of entries -/
def logP (l : List Ent) : List UInt8 := if chkE l = 0 then bytesP (writeP l) else []
theorem writeP_len {l : List Ent} (h : chkE l = 0) : (writeP l).length ≤ 30000 ∧ 1 ≤ (writeP l).length := by
  have h1 := tapeP_len h
  have h2 := chkE_ok h
  have h3 := fsP_len (tapeP l)
  have h4 := nextF_len (fsP (tapeP l))
  have h5 := fillP_len (t := tapeP l)
  refine ⟨?_, h5.2⟩
  show (endF (nextF (fsP (tapeP l)))).length ≤ 30000
  unfold endF
  split
  · rw [List.length_append]; simp only [List.length_cons, List.length_nil]; omega
  · omega

theorem WriteLog_c (l : List Ent) (al : Option Addr) (bl ol cl : Nat) (w0 : World) (hl : Sl encEnt 6 w0 al bl ol l) (hll : l.length ≤ 1000000000) (hpos : 0 < w0.heap.size) :
    CallsV Tryz.prog 9 [.slice al l.length cl] w0 (fun v w' => (∃ a9 g9 c9, v = .tuple #[.slice a9 (logP l).length c9, .int .i64 (chkE l)] ∧ Acc encY 1 5 w0.heap.size w' a9 g9 c9 (logP l)) ∧ Ext w0 w') := by
 refine f_n func9 ?_
 refine go ?_
 refine x_c func29 rfl rfl (checkEntries_c l al bl ol cl _ hl (by omega)) ?_
 rintro _ w6 ⟨rfl, u7⟩ zu7
 refine go ?_
 refine q_p (fun g8 => ?_) fun g8 => ?_
 ·
  refine go ?_
  refine f_ret2 (v1 := .slice none 0 0) (v2 := .int .i64 (chkE l)) results9 rfl rfl ?_
  exact ⟨⟨none, 0, 0, by unfold logP; rw [if_neg (by omega)]; rfl, by unfold logP; rw [if_neg (by omega)]; exact Acc.nil _ _ _ _ _ hpos (by omega)⟩, u_d⟩
 have hok0 : chkE l = 0 := by omega
 have hwl := writeP_len hok0
 refine go ?_
 refine x_c func30 rfl rfl (write_c l al bl ol cl _ (hl.keep ((Upd.refl (fun _ => False) w0).nx u7) (fun _ h => h)) hok0) ?_
 rintro _ w15 ⟨⟨ar13, gr13, cr13, rfl, hFr13⟩, u16⟩ zu16
 have lt_gr13 := hFr13.lt
 refine x_c func31 rfl rfl (bytes_c (writeP l) ar13 gr13 0 cr13 _ (hFr13.sl encBk_len) (by omega) (by omega)) ?_
 rintro _ w21 ⟨⟨ay19, gy19, cy19, rfl, hFy19⟩, u22⟩ zu22
 have lt_gy19 := hFy19.lt
 refine go ?_
 refine f_ret2 (v1 := .slice ay19 ((bytesP (writeP l)).length) cy19) (v2 := .int .i64 0) results9 rfl rfl ?_
 have hlg : logP l = bytesP (writeP l) := by unfold logP; rw [if_pos hok0]
 exact ⟨⟨ay19, gy19, cy19, by rw [hlg, hok0], by rw [hlg]; exact Acc.lowP hFy19 (by rw [bytesP_len]; omega) (by omega)⟩, u_d⟩

end Go.Proofs.YtagmkfbbhfaceaaGreatDoor
namespace Go.Proofs.YtagmkfbbhfaceaaGreatDoor
open Go Go.RowKit
/-- A slice in memory, what it holds. -/
structure Hl (α : Type) where
  xs : List α
  ao : Option Addr
  g : Nat
  o : Nat
  cp : Nat
instance {α : Type} : Inhabited (Hl α) := ⟨⟨[], none, 0, 0, 0⟩⟩
theorem Acc.ge {α : Type} {enc : α → List Value} {k : Nat} {e : TypeId} {base : Nat} {w : World} {ao : Option Addr} {g cap : Nat} {xs : List α} (h : Acc enc k e base w ao g cap xs) (hp : 0 < xs.length) : base ≤ g := by
  rcases h.at_ with ⟨_, h1, _⟩ | ⟨_, h2, _⟩
  · subst h1; simp at hp
  · exact h2
theorem subAddr0 (ao : Option Addr) (cap k : Nat) : subAddr ao cap 0 k = ao := by
  unfold subAddr
  split
  · rfl
  · cases ao <;> simp [Addr.add]
section
variable {α : Type} [Inhabited α] {p : α → Bool} {l : List α} {j k : Nat}
/-- What is kept of the first elements. -/
def kp (p : α → Bool) (l : List α) (j : Nat) : List α := (l.take j).filter fun x => !p x
/-- What DeleteFunc's slice holds when j elements are looked at. -/
def dl (p : α → Bool) (l : List α) (j : Nat) : List α := kp p l j ++ l.drop (kp p l j).length
omit [Inhabited α] in
end
section
variable {P : Program} {ops : Array Oper} {Q : Exit → Act → World → Prop} {N : Nat} {ds : List Deferred} {rest : List Oper} {L : Slots} {w : World} {rd : Option Nat} {d : Nat} {ty : TypeId} {pos : String} {aft : Array Edge} {g : Option (Nat × Bool)}
theorem WL.value0 {o : Oper} {v : Value} {w' : World} (hg : grd ops L o.guard = true) (hd : o.dst = none)
    (hr : ∀ a, Kn N ds L a → (execOp a.eval o).run P w = .ok (.value v) w') (h : WL rd P ops Q N ds rest L w') : WL rd P ops Q N ds (o :: rest) L w := by
  refine ⟨fun a ha => ?_⟩
  unfold wpListIn
  rw [if_pos (ha.wanted hg)]
  unfold Oper.wpIn
  refine ⟨fun f _ => rnd_fn _ f, ?_⟩
  rw [semAt_of_ok (by simp) (hr a ha), Oper.uponIn_value, hd]
  exact h _ ha
theorem zero_cells {z : Value} {k n : Nat} (hz : z.cells.size = k) : (Builtin.zeroCells z.cells n).toList.length = n * k := by simp [Builtin.zeroCells, hz]
theorem zero_one {z : Value} {n : Nat} (h1 : z.cells.toList.all Value.oneCell' = true) : ∀ u ∈ (Builtin.zeroCells z.cells n).toList, u.oneCell' = true := by
  intro u hu
  simp only [Builtin.zeroCells] at hu
  rw [Array.toList_map] at hu
  obtain ⟨q, hq, rfl⟩ := List.mem_map.1 hu
  simp only [Array.toList_range, List.mem_range] at hq
  have hpos : 0 < z.cells.size := by
    rcases Nat.eq_zero_or_pos z.cells.size with h | h
    · rw [h, Nat.mul_zero] at hq; omega
    · exact h
  have hlt : q % z.cells.size < z.cells.size := Nat.mod_lt _ hpos
  have : z.cells[q % z.cells.size]! = z.cells[q % z.cells.size] := by simp [hlt]
  rw [this]
  exact List.all_eq_true.1 h1 _ (by rw [← Array.getElem_toList hlt]; exact List.getElem_mem _)
/-- clear(s[i:]) of a slice of the call's own. -/
theorem t_clear {α : Type} {enc : α → List Value} {k : Nat} {t e : TypeId} {z : Value} {base : Nat} {x : Operand} {ao : Option Addr} {gb cap i n c : Nat} {xs : List α} {ats : Array TypeId}
    (hu : P.underlying t = some (.slice e)) (ht : ats = #[t]) (hv : ∀ w, (zeroValue e).run P w = .ok z w) (hz : z.cells.size = k) (h1 : z.cells.toList.all Value.oneCell' = true) (hk : ∀ x, (enc x).length = k)
    (hg : grd ops L g = true) (hx : ev L x = some (.slice (subAddr ao cap i k) n c)) (hn : n = xs.length - i) (hi : i ≤ xs.length) (ha : Acc enc k e base w ao gb cap xs)
    (h : ∀ w', w'.heap.size = w.heap.size → Acc enc k e base w' ao gb cap (xs.take i) → Upd (fun j => j = gb ∧ base ≤ j) w w' → WL rd P ops Q N ds rest L w') :
    WL rd P ops Q N ds (⟨none, .call ⟨.builtin .clear, #[x], ats⟩, ty, pos, aft, g⟩ :: rest) L w := by
  subst ht hn
  have hsame : xs.length - i = 0 → WL rd P ops Q N ds (⟨none, .call ⟨.builtin .clear, #[x], #[t]⟩, ty, pos, aft, g⟩ :: rest) L w := fun h0 => by
    have e1 : xs.take i = xs := List.take_of_length_le (by omega)
    refine WL.value0 (v := .tuple #[]) (w' := w) hg rfl (fun a hk => ?_) (h w rfl (by rw [e1]; exact ha) (Upd.refl _ _))
    rw [h0] at hx
    simp only [execOp, resolve, invoke, builtin]
    cases hs : subAddr ao cap i k <;> rw [hs] at hx <;> simp [hk.ev hx, Builtin.clear_, run_underlying hu]
  rcases Nat.eq_zero_or_pos (xs.length - i) with h0 | hp
  · exact hsame h0
  rcases ha.at_ with ⟨_, h2, _⟩ | ⟨h2, h3, cur, h4, h5, h6, h7, h8⟩
  · subst h2; simp at hp
  subst h2
  have hB : Blk w gb e cur.toList := by unfold Blk; rw [h4]
  have hlen := flatMap_len hk xs
  have hzl := zero_cells (n := xs.length - i) hz
  have hcl : cur.toList.length = cap * k := by rw [Array.length_toList]; exact h7
  have hmul : i * k + (xs.length - i) * k = xs.length * k := by rw [← Nat.add_mul]; congr 1; omega
  have hcm : xs.length * k ≤ cap * k := Nat.mul_le_mul_right k h5
  have hsub : subAddr (some ⟨gb, 0, none⟩) cap i k = some ⟨gb, i * k, none⟩ := by rw [subAddr_some (by omega), Nat.zero_add]
  rw [hsub] at hx
  obtain ⟨w', hr, hB', hU, hs⟩ := run_storeCells (P := P) (Builtin.zeroCells z.cells (xs.length - i)).toList w cur.toList (i * k) 0 hB (by rw [hzl, hcl]; omega) (zero_one h1)
  refine WL.value0 (v := .tuple #[]) (w' := w') hg rfl (fun a hk => ?_) (h w' hs ⟨by rw [hs]; exact ha.lt, .inr ⟨rfl, h3, (lay cur.toList (i * k) (Builtin.zeroCells z.cells (xs.length - i)).toList).toArray, ?_, ?_, h6, ?_, ?_⟩⟩ (hU.mono fun j hj => ⟨hj, by omega⟩))
  · obtain ⟨m, hm⟩ : ∃ m, xs.length - i = m + 1 := ⟨xs.length - i - 1, by omega⟩
    rw [hm] at hx hr
    simp only [execOp, resolve, invoke, builtin]
    simp [hk.ev hx, Builtin.clear_, run_underlying hu, hv, hr]
  · have := hB'
    unfold Blk at this
    simpa using this
  · rw [List.length_take]; omega
  · simp only [List.size_toArray, lay_length, Array.length_toList]; exact h7
  · rw [List.length_take, Nat.min_eq_left hi, lay_ov _ _ _ (by rw [hzl, hcl]; omega)]
    have e1 : (i * k) ≤ cur.toList.length := by rw [Array.length_toList, h7]; omega
    rw [List.append_assoc, List.take_append_of_le_length (by rw [List.length_take]; omega), List.take_take, Nat.min_self]
    have e2 : cur.toList.take (i * k) = (cur.toList.take (xs.length * k)).take (i * k) := by rw [List.take_take, Nat.min_eq_left (by omega)]
    rw [e2, h8]
    have e3 : xs.flatMap enc = (xs.take i).flatMap enc ++ (xs.drop i).flatMap enc := by rw [← List.flatMap_append, List.take_append_drop]
    rw [e3, List.take_left' (by rw [flatMap_len hk, List.length_take, Nat.min_eq_left hi])]
end
end Go.Proofs.YtagmkfbbhfaceaaGreatDoor
namespace Go.Proofs.YtagmkfbbhfaceaaGreatDoor
open Go Go.RowKit Go.Proofs.Tryz
set_option maxRecDepth 10000
/-! ### states: cargo and hulls -/
structure Crg where
  b : Int
  t : Int
instance : Inhabited Crg := ⟨⟨0, 0⟩⟩
/-- A hull in memory. -/
structure HR where
  n : Int
  p : Int
  ao : Option Addr
  g : Nat
  o : Nat
  cp : Nat
  c : List Crg
instance : Inhabited HR := ⟨⟨0, 0, none, 0, 0, 0, []⟩⟩
def encCrg (x : Crg) : List Value := [.int .i64 x.b, .int .i64 x.t]
def encHR (x : HR) : List Value := [.int .i64 x.n, .int .i64 x.p, .slice x.ao x.c.length x.cp]
theorem encCrg_one (x : Crg) : ∀ u ∈ encCrg x, u.oneCell' = true := by intro u hu; simp [encCrg] at hu; rcases hu with rfl | rfl <;> rfl
theorem encHR_one (x : HR) : ∀ u ∈ encHR x, u.oneCell' = true := by intro u hu; simp [encHR] at hu; rcases hu with rfl | rfl | rfl <;> rfl
/-- The keys ascend. -/
def Asc {α : Type} [Inhabited α] (ky : α → Int) (l : List α) : Prop := ∀ i j, i < j → j < l.length → ky (nth l i) < ky (nth l j)
/-- Where a key belongs. -/
def posK {α : Type} (ky : α → Int) (n : Int) : List α → Nat
  | [] => 0
  | x :: l => if ky x < n then posK ky n l + 1 else 0
theorem posK_eq {α : Type} [Inhabited α] {ky : α → Int} {n : Int} : ∀ {l : List α} {k : Nat}, k ≤ l.length → (∀ j, j < k → ky (nth l j) < n) → (k < l.length → n ≤ ky (nth l k)) → posK ky n l = k
  | [], k, hk, _, _ => by
    have : k = 0 := by simpa using hk
    subst this; rfl
  | x :: l, 0, _, _, h => by
    have : n ≤ ky x := h (by simp)
    unfold posK
    rw [if_neg (by omega)]
  | x :: l, k + 1, hk, h1, h2 => by
    have hx : ky x < n := h1 0 (by omega)
    unfold posK
    rw [if_pos hx, posK_eq (k := k) (by simpa using hk) (fun j hj => h1 (j + 1) (by omega)) (fun h => h2 (by simpa using h))]
theorem posK_spec {α : Type} [Inhabited α] (ky : α → Int) (n : Int) : ∀ (l : List α), posK ky n l ≤ l.length ∧ (∀ j, j < posK ky n l → ky (nth l j) < n) ∧ (posK ky n l < l.length → n ≤ ky (nth l (posK ky n l)))
  | [] => ⟨Nat.le_refl _, fun j h => absurd h (Nat.not_lt_zero j), fun h => absurd h (Nat.not_lt_zero _)⟩
  | x :: l => by
    obtain ⟨h1, h2, h3⟩ := posK_spec ky n l
    unfold posK
    split
    · refine ⟨by simpa using h1, fun j hj => ?_, fun h => ?_⟩
      · cases j with
        | zero => assumption
        | succ j => exact h2 j (by omega)
      · exact h3 (by simpa using h)
    · refine ⟨Nat.zero_le _, fun j hj => absurd hj (Nat.not_lt_zero j), fun _ => ?_⟩
      show n ≤ ky x
      omega
theorem Asc.below {α : Type} [Inhabited α] {ky : α → Int} {l : List α} {n : Int} (h : Asc ky l) {k : Nat} (hk : k ≤ l.length) (hl : 0 < k → ky (nth l (k - 1)) < n) : ∀ j, j < k → ky (nth l j) < n := fun j hj => by
  have h1 := hl (by omega)
  rcases Nat.lt_or_ge j (k - 1) with q | q
  · have := h j (k - 1) q (by omega)
    omega
  · rwa [show j = k - 1 by omega]
/-- Whether a key is there. -/
def isK {α : Type} [Inhabited α] (ky : α → Int) (n : Int) (l : List α) : Bool := decide (posK ky n l < l.length ∧ ky (nth l (posK ky n l)) = n)
theorem book1_c (x : Crg) (n : Int) (w0 : World) (hx : -1000000 ≤ x.b ∧ x.b ≤ 1000000) (hn : -1000000 ≤ n ∧ n ≤ 1000000) :
    CallsV Tryz.prog 180 [.agg #[.int .i64 x.b, .int .i64 x.t], .int .i64 n] w0 (fun v w' => v = .int .i64 (x.b - n) ∧ Ext w0 w') := by
 refine f_n func180 ?_
 refine go ?_
 refine x_b fun bk2 w3 ebk2 sbk2 B4 u5 => ?_
 refine go ?_
 refine f_1 results180 ?_
 exact ⟨rfl, u_d⟩

set_option maxHeartbeats 4000000 in
theorem searchC_c (l : List Crg) (al : Option Addr) (bl ol cl : Nat) (n : Int) (w0 : World) (hl : Sl encCrg 2 w0 al bl ol l) (hs : Asc (fun x : Crg => x.b) l) (hll : l.length ≤ 1000000) (hky : ∀ x ∈ l, -1000000 ≤ x.b ∧ x.b ≤ 1000000) (hn : -1000000 ≤ n ∧ n ≤ 1000000) :
    CallsV Tryz.prog 179 [.slice al l.length cl, .int .i64 n, .func (.func 180) #[] #[]] w0 (fun v w' => v = .tuple #[.int .i64 (posK (fun x : Crg => x.b) n l : Int), .bool (isK (fun x : Crg => x.b) n l)] ∧ Ext w0 w') := by
 refine f_n func179 ?_
 refine go ?_
 refine x_l2 (fun _ => False) [0, 1, 2, 8] (fun (i : Nat) (j : Nat) => [(9, .int .i64 (i : Int)), (10, .int .i64 (j : Int))]) (fun i j w => (i ≤ j) ∧ (j ≤ l.length) ∧ (0 < i → (nth l (i - 1)).b < n) ∧ (j < l.length → n ≤ (nth l j).b)) (fun i j => j - i) 0 l.length ⟨(Nat.zero_le _), (Nat.le_refl _), (fun h => absurd h (Nat.lt_irrefl _)), (fun h => absurd h (Nat.lt_irrefl _))⟩ ?_
 rintro i j w6 ⟨hij, hjl, hi, hj⟩ u7 zu7 K5 hK5
 have E8 := Sc.mk ((Upd.refl (fun _ => False) w0).nx u7)
 refine go ?_
 refine q_p (fun g17 => ?_) fun g17 => ?_
 ·
  refine go ?_
  refine t_conv underlying3 underlying175 rfl rfl rfl (IntWalk.u64_in _ (by omega)) (t_shr1 rfl rfl rfl rfl (by omega) (t_conv underlying175 underlying3 rfl rfl rfl (IntWalk.i64_in _ (by omega)) ?_))
  refine go ?_
  refine g_i ((i + j) / 2) (hl.keep E8.u (fun _ h => h)) (fun _ => ?_) (hj := (by omega))
  refine go ?_
  refine x_c func180 rfl rfl (book1_c (nth l ((i + j) / 2)) n _ (hky _ (nth_mem (by omega))) hn) ?_
  rintro _ w15 ⟨rfl, u16⟩ zu16
  refine go ?_
  refine q_p (fun g31 => ?_) fun g31 => ?_
  ·
   refine go ?_
   exact hK5 ((i + j) / 2 + 1) j ⟨(by show ((i + j) / 2) + 1 ≤ j; omega), (by omega), (fun _ => by show (nth l (((i + j) / 2) + 1 - 1)).b < n; rw [Nat.add_sub_cancel]; omega), hj⟩ (hs := by exact ⟨(congrArg (fun z => some (Value.int .i64 z)) (by omega)), (congrArg (fun z => some (Value.int .i64 z)) (by omega)), rfl, rfl, rfl, rfl, trivial⟩)
  refine go ?_
  exact hK5 i ((i + j) / 2) ⟨(by omega), (by omega), hi, (fun _ => by show n ≤ (nth l ((i + j) / 2)).b; omega)⟩ (hs := by exact ⟨(congrArg (fun z => some (Value.int .i64 z)) (by omega)), (congrArg (fun z => some (Value.int .i64 z)) (by omega)), rfl, rfl, rfl, rfl, trivial⟩)
 refine go ?_
 refine t_splitp 39 rfl (fun g39 => ?_) (fun g39 => ?_)
 ·
  refine go ?_
  refine g_i i (hl.keep E8.u (fun _ h => h)) (fun _ => ?_)
  refine go ?_
  refine x_c func180 rfl rfl (book1_c (nth l i) n _ (hky _ (nth_mem (by omega))) hn) ?_
  rintro _ w22 ⟨rfl, u23⟩ zu23
  refine go ?_
  refine f_ret2 (v1 := .int .i64 (i : Int)) (v2 := .bool (decide (((nth l i).b - n) = 0))) results179 rfl rfl ?_
  have hij2 : i = j := by omega
  subst hij2
  have hps : posK (fun x : Crg => x.b) n l = i := posK_eq hjl (hs.below hjl hi) hj
  exact ⟨by unfold isK; rw [hps]; simp [*] <;> first | omega | (rw [Bool.eq_iff_iff]; simp only [decide_eq_true_eq, Bool.and_eq_true]; omega), u_d⟩
 refine go ?_
 refine f_ret2 (v1 := .int .i64 (i : Int)) (v2 := .bool false) results179 rfl rfl ?_
 have hij2 : i = j := by omega
 subst hij2
 have hps : posK (fun x : Crg => x.b) n l = i := posK_eq hjl (hs.below hjl hi) hj
 exact ⟨by unfold isK; rw [hps]; simp [*] <;> first | omega | (rw [Bool.eq_iff_iff]; simp only [decide_eq_true_eq, Bool.and_eq_true]; omega), u_d⟩

theorem find1_c (x : HR) (n : Int) (w0 : World) (hx : -1000000 ≤ x.n ∧ x.n ≤ 1000000) (hn : -1000000 ≤ n ∧ n ≤ 1000000) :
    CallsV Tryz.prog 142 [.agg #[.int .i64 x.n, .int .i64 x.p, .slice x.ao x.c.length x.cp], .int .i64 n] w0 (fun v w' => v = .int .i64 (x.n - n) ∧ Ext w0 w') := by
 refine f_n func142 ?_
 refine go ?_
 refine x_b fun bk2 w3 ebk2 sbk2 B4 u5 => ?_
 refine go ?_
 refine f_1 results142 ?_
 exact ⟨rfl, u_d⟩

set_option maxHeartbeats 4000000 in
theorem searchH_c (l : List HR) (al : Option Addr) (bl ol cl : Nat) (n : Int) (w0 : World) (hl : Sl encHR 3 w0 al bl ol l) (hs : Asc (fun x : HR => x.n) l) (hll : l.length ≤ 1000000) (hky : ∀ x ∈ l, -1000000 ≤ x.n ∧ x.n ≤ 1000000) (hn : -1000000 ≤ n ∧ n ≤ 1000000) :
    CallsV Tryz.prog 141 [.slice al l.length cl, .int .i64 n, .func (.func 142) #[] #[]] w0 (fun v w' => v = .tuple #[.int .i64 (posK (fun x : HR => x.n) n l : Int), .bool (isK (fun x : HR => x.n) n l)] ∧ Ext w0 w') := by
 refine f_n func141 ?_
 refine go ?_
 refine x_l2 (fun _ => False) [0, 1, 2, 8] (fun (i : Nat) (j : Nat) => [(9, .int .i64 (i : Int)), (10, .int .i64 (j : Int))]) (fun i j w => (i ≤ j) ∧ (j ≤ l.length) ∧ (0 < i → (nth l (i - 1)).n < n) ∧ (j < l.length → n ≤ (nth l j).n)) (fun i j => j - i) 0 l.length ⟨(Nat.zero_le _), (Nat.le_refl _), (fun h => absurd h (Nat.lt_irrefl _)), (fun h => absurd h (Nat.lt_irrefl _))⟩ ?_
 rintro i j w6 ⟨hij, hjl, hi, hj⟩ u7 zu7 K5 hK5
 have E8 := Sc.mk ((Upd.refl (fun _ => False) w0).nx u7)
 refine go ?_
 refine q_p (fun g17 => ?_) fun g17 => ?_
 ·
  refine go ?_
  refine t_conv underlying3 underlying175 rfl rfl rfl (IntWalk.u64_in _ (by omega)) (t_shr1 rfl rfl rfl rfl (by omega) (t_conv underlying175 underlying3 rfl rfl rfl (IntWalk.i64_in _ (by omega)) ?_))
  refine go ?_
  refine g_i ((i + j) / 2) (hl.keep E8.u (fun _ h => h)) (fun _ => ?_) (hj := (by omega))
  refine go ?_
  refine x_c func142 rfl rfl (find1_c (nth l ((i + j) / 2)) n _ (hky _ (nth_mem (by omega))) hn) ?_
  rintro _ w15 ⟨rfl, u16⟩ zu16
  refine go ?_
  refine q_p (fun g31 => ?_) fun g31 => ?_
  ·
   refine go ?_
   exact hK5 ((i + j) / 2 + 1) j ⟨(by show ((i + j) / 2) + 1 ≤ j; omega), (by omega), (fun _ => by show (nth l (((i + j) / 2) + 1 - 1)).n < n; rw [Nat.add_sub_cancel]; omega), hj⟩ (hs := by exact ⟨(congrArg (fun z => some (Value.int .i64 z)) (by omega)), (congrArg (fun z => some (Value.int .i64 z)) (by omega)), rfl, rfl, rfl, rfl, trivial⟩)
  refine go ?_
  exact hK5 i ((i + j) / 2) ⟨(by omega), (by omega), hi, (fun _ => by show n ≤ (nth l ((i + j) / 2)).n; omega)⟩ (hs := by exact ⟨(congrArg (fun z => some (Value.int .i64 z)) (by omega)), (congrArg (fun z => some (Value.int .i64 z)) (by omega)), rfl, rfl, rfl, rfl, trivial⟩)
 refine go ?_
 refine t_splitp 39 rfl (fun g39 => ?_) (fun g39 => ?_)
 ·
  refine go ?_
  refine g_i i (hl.keep E8.u (fun _ h => h)) (fun _ => ?_)
  refine go ?_
  refine x_c func142 rfl rfl (find1_c (nth l i) n _ (hky _ (nth_mem (by omega))) hn) ?_
  rintro _ w22 ⟨rfl, u23⟩ zu23
  refine go ?_
  refine f_ret2 (v1 := .int .i64 (i : Int)) (v2 := .bool (decide (((nth l i).n - n) = 0))) results141 rfl rfl ?_
  have hij2 : i = j := by omega
  subst hij2
  have hps : posK (fun x : HR => x.n) n l = i := posK_eq hjl (hs.below hjl hi) hj
  exact ⟨by unfold isK; rw [hps]; simp [*] <;> first | omega | (rw [Bool.eq_iff_iff]; simp only [decide_eq_true_eq, Bool.and_eq_true]; omega), u_d⟩
 refine go ?_
 refine f_ret2 (v1 := .int .i64 (i : Int)) (v2 := .bool false) results141 rfl rfl ?_
 have hij2 : i = j := by omega
 subst hij2
 have hps : posK (fun x : HR => x.n) n l = i := posK_eq hjl (hs.below hjl hi) hj
 exact ⟨by unfold isK; rw [hps]; simp [*] <;> first | omega | (rw [Bool.eq_iff_iff]; simp only [decide_eq_true_eq, Bool.and_eq_true]; omega), u_d⟩

theorem cloneC_c (l : List Crg) (al : Option Addr) (bl ol cl : Nat) (w0 : World) (hl : Sl encCrg 2 w0 al bl ol l) (hll : l.length ≤ 1000000) (hpos : 0 < w0.heap.size) :
    CallsV Tryz.prog 90 [.slice al l.length cl] w0 (fun v w' => (∃ ao g cp, v = .slice ao (List.length l) cp ∧ Acc encCrg 2 72 w0.heap.size w' ao g cp l) ∧ Ext w0 w') := by
 refine f_n func90 ?_
 refine go ?_
 refine t_nilS underlying64 rfl rfl rfl rfl ?_
 refine go ?_
 refine q_b (fun g4 => ?_) fun g4 => ?_
 ·
  refine go ?_
  refine f_1 results90 ?_
  have hl0 : l = [] := List.eq_nil_of_length_eq_zero (by
    rcases Nat.eq_zero_or_pos l.length with h | h
    · exact h
    · rw [hl.addr h] at g4; cases g4)
  exact ⟨⟨none, 0, 0, by rw [hl0]; rfl, by rw [hl0]; exact Acc.nil _ _ _ _ _ hpos (by omega)⟩, u_d⟩
 refine go ?_
 refine x_l fun bk6 w7 ebk6 sbk6 B8 u9 => ?_
 refine go ?_
 refine t_copyE (enc := encCrg) (z := .agg #[.int .i64 0, .int .i64 0]) (bytes := 16) (k := 2) (ys := l) underlying64 (by kernel_rfl) rfl (by decide) (fun _ => rfl) (by intro x; simp [encCrg, Value.oneCell']) rfl rfl rfl rfl B8 (hl.keep ((Upd.refl (fun _ => False) w0).nx u9) (fun _ h => h)) (by omega) (by decide) (fun ao1 g1 c1 w11 A13 u12 ge1 => ?_)
 have zu12 := u12.size
 refine go ?_
 refine f_1 results90 ?_
 obtain ⟨g9, ha9⟩ := Acc.lower (base' := w0.heap.size) A13 (by omega) hpos
 exact ⟨⟨ao1, g9, c1, rfl, ha9⟩, u_d⟩

theorem cloneH_c (l : List HR) (al : Option Addr) (bl ol cl : Nat) (w0 : World) (hl : Sl encHR 3 w0 al bl ol l) (hll : l.length ≤ 1000000) (hpos : 0 < w0.heap.size) :
    CallsV Tryz.prog 91 [.slice al l.length cl] w0 (fun v w' => (∃ ao g cp, v = .slice ao (List.length l) cp ∧ Acc encHR 3 70 w0.heap.size w' ao g cp l) ∧ Ext w0 w') := by
 refine f_n func91 ?_
 refine go ?_
 refine t_nilS underlying63 rfl rfl rfl rfl ?_
 refine go ?_
 refine q_b (fun g4 => ?_) fun g4 => ?_
 ·
  refine go ?_
  refine f_1 results91 ?_
  have hl0 : l = [] := List.eq_nil_of_length_eq_zero (by
    rcases Nat.eq_zero_or_pos l.length with h | h
    · exact h
    · rw [hl.addr h] at g4; cases g4)
  exact ⟨⟨none, 0, 0, by rw [hl0]; rfl, by rw [hl0]; exact Acc.nil _ _ _ _ _ hpos (by omega)⟩, u_d⟩
 refine go ?_
 refine x_l fun bk6 w7 ebk6 sbk6 B8 u9 => ?_
 refine go ?_
 refine t_copyE (enc := encHR) (z := .agg #[.int .i64 0, .int .i64 0, .slice none 0 0]) (bytes := 40) (k := 3) (ys := l) underlying63 (by kernel_rfl) rfl (by decide) (fun _ => rfl) (by intro x; simp [encHR, Value.oneCell']) rfl rfl rfl rfl B8 (hl.keep ((Upd.refl (fun _ => False) w0).nx u9) (fun _ h => h)) (by omega) (by decide) (fun ao1 g1 c1 w11 A13 u12 ge1 => ?_)
 have zu12 := u12.size
 refine go ?_
 refine f_1 results91 ?_
 obtain ⟨g9, ha9⟩ := Acc.lower (base' := w0.heap.size) A13 (by omega) hpos
 exact ⟨⟨ao1, g9, c1, rfl, ha9⟩, u_d⟩

end Go.Proofs.YtagmkfbbhfaceaaGreatDoor
