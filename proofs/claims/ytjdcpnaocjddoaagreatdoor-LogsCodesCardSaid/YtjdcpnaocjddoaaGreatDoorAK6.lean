/-
  Part 6 of the proof: contracts and plain laws. Conditions: none.
-/
import Derived.Shelf.Strings.OnBuilder
import Derived.Shelf.Strconv.Itoa3
import Derived.Ground.NamesProg
import Derived.Test.YtjdcpnaocjddoaaGreatDoorProg
import Derived.Lib.ItoaLen
import Derived.Lib.Join
import Derived.Test.YtjdcpnaocjddoaaGreatDoorAK5
namespace Go.Proofs.YtjdcpnaocjddoaaGreatDoor
open Go Go.RowKit Go.Proofs.Tryz
/-! ### entries -/
structure Ent where
  m : Int
  k : Int
  h : Int
  p : Int
  b : Int
  t : Int
instance : Inhabited Ent := ⟨⟨0, 0, 0, 0, 0, 0⟩⟩
def plK (k : Int) : Bool := decide (k = 1 ∨ k = 3)
def okEnt (x : Ent) : Bool := decide ((0 ≤ x.m ∧ x.m ≤ 1000000) ∧ (1 ≤ x.h ∧ x.h ≤ 999) ∧ (1 ≤ x.k ∧ x.k ≤ 4) ∧ (((x.k = 1 ∨ x.k = 3) ∧ (0 ≤ x.p ∧ x.p ≤ 100000) ∧ x.b = 0 ∧ x.t = 0) ∨ (¬ (x.k = 1 ∨ x.k = 3) ∧ x.p = 0 ∧ (1 ≤ x.b ∧ x.b ≤ 9999) ∧ (1 ≤ x.t ∧ x.t ≤ 100000))))
theorem okEnt_iff {x : Ent} (h : okEnt x = true) : (0 ≤ x.m ∧ x.m ≤ 1000000) ∧ (1 ≤ x.h ∧ x.h ≤ 999) ∧ (1 ≤ x.k ∧ x.k ≤ 4) ∧ (0 ≤ x.p ∧ x.p ≤ 100000) ∧ (0 ≤ x.b ∧ x.b ≤ 9999) ∧ (0 ≤ x.t ∧ x.t ≤ 100000) ∧ (¬ (x.k = 1 ∨ x.k = 3) → 1 ≤ x.b ∧ 1 ≤ x.t) := by
  unfold okEnt at h; rw [decide_eq_true_eq] at h; omega
def chkG (m : Int) : List Ent → Int
  | [] => 0
  | x :: r => if okEnt x = true then (if x.m < m then 9 else chkG x.m r) else 2
def chkE (l : List Ent) : Int := if l.length = 0 then 4 else if 2000 < l.length then 5 else chkG 0 l
def lastM (m : Int) : List Ent → Int
  | [] => m
  | x :: r => lastM x.m r
theorem lastM_snoc (x : Ent) : ∀ (l : List Ent) (m : Int), lastM m (l ++ [x]) = x.m
  | [], _ => rfl
  | y :: l, _ => lastM_snoc x l y.m
def entP (m : Int) (x : Ent) : List UInt8 := putP (x.k - 1).toNat 2 ++ codesP [x.m - m, x.h - 1] ++ (if plK x.k = true then codesP [x.p] else codesP [x.b - 1, x.t - 1])
def entsG (m : Int) : List Ent → List UInt8
  | [] => []
  | x :: r => entP m x ++ entsG x.m r
theorem entsG_snoc (x : Ent) : ∀ (l : List Ent) (m : Int), entsG m (l ++ [x]) = entsG m l ++ entP (lastM m l) x
  | [], m => by simp [entsG, lastM]
  | y :: l, m => by
    simp only [List.cons_append, entsG, lastM, entsG_snoc x l y.m, List.append_assoc]
def tapeP (l : List Ent) : List UInt8 := codesP [(l.length : Int) - 1] ++ entsG 0 l
def writeP (l : List Ent) : List Bk := fillP (tapeP l)
theorem chkG_cons {m : Int} {x : Ent} {r : List Ent} (h : chkG m (x :: r) = 0) : okEnt x = true ∧ m ≤ x.m ∧ chkG x.m r = 0 := by
  unfold chkG at h
  split at h
  · split at h
    · cases h
    · exact ⟨by assumption, by omega, h⟩
  · cases h
theorem chkG_take : ∀ {l : List Ent} {m : Int} (i : Nat), chkG m l = 0 → chkG m (l.take i) = 0
  | _, _, 0, _ => by simp [chkG]
  | [], _, _ + 1, _ => by simp [chkG]
  | x :: r, m, i + 1, h => by
    obtain ⟨h1, h2, h3⟩ := chkG_cons h
    rw [List.take_succ_cons]
    unfold chkG
    rw [if_pos h1, if_neg (by omega)]
    exact chkG_take i h3
theorem chkG_at : ∀ {l : List Ent} {m : Int} {i : Nat}, chkG m l = 0 → i < l.length → okEnt (nth l i) = true ∧ lastM m (l.take i) ≤ (nth l i).m
  | x :: r, m, 0, h, _ => by
    obtain ⟨h1, h2, h3⟩ := chkG_cons h
    exact ⟨h1, h2⟩
  | x :: r, m, i + 1, h, hi => by
    obtain ⟨h1, h2, h3⟩ := chkG_cons h
    have := chkG_at (i := i) h3 (by simpa using hi)
    exact ⟨by simpa [nth] using this.1, by simpa [nth, lastM] using this.2⟩
theorem lastM_ge : ∀ {l : List Ent} {m : Int}, chkG m l = 0 → m ≤ lastM m l
  | [], _, _ => Int.le_refl _
  | x :: r, m, h => by
    obtain ⟨_, h2, h3⟩ := chkG_cons h
    have := lastM_ge h3
    show m ≤ lastM x.m r
    omega
theorem entP_len {m : Int} {x : Ent} (hx : okEnt x = true) (hm : m ≤ x.m) (h0 : 0 ≤ m) : (entP m x).length ≤ 238 := by
  have h := okEnt_iff hx
  have h1 : (codesP [x.m - m, x.h - 1]).length ≤ 59 * 2 := codesP_len (l := [x.m - m, x.h - 1]) (by simp; omega)
  have h2 : (codesP [x.p]).length ≤ 59 * 1 := codesP_len (l := [x.p]) (by simp; omega)
  unfold entP
  rw [List.length_append, List.length_append, putP_length]
  split
  · omega
  · rename_i hk
    have hk2 : ¬ (x.k = 1 ∨ x.k = 3) := by simpa [plK] using hk
    have h3 : (codesP [x.b - 1, x.t - 1]).length ≤ 59 * 2 := codesP_len (l := [x.b - 1, x.t - 1]) (by have := h.2.2.2.2.2.2 hk2; simp; omega)
    omega
theorem entsG_len : ∀ {l : List Ent} {m : Int}, chkG m l = 0 → 0 ≤ m → (entsG m l).length ≤ 238 * l.length
  | [], _, _, _ => Nat.zero_le _
  | x :: r, m, h, h0 => by
    obtain ⟨h1, h2, h3⟩ := chkG_cons h
    have q1 := entP_len h1 h2 h0
    have q2 := entsG_len h3 (by omega)
    simp only [entsG, List.length_append, List.length_cons]; omega
theorem chkE_ok {l : List Ent} (h : chkE l = 0) : 1 ≤ l.length ∧ l.length ≤ 2000 ∧ chkG 0 l = 0 := by
  unfold chkE at h
  split at h
  · cases h
  · split at h
    · cases h
    · exact ⟨by omega, by omega, h⟩
theorem tapeP_len {l : List Ent} (h : chkE l = 0) : (tapeP l).length ≤ 59 + 238 * l.length := by
  obtain ⟨h1, h2, h3⟩ := chkE_ok h
  have q1 : (codesP [(l.length : Int) - 1]).length ≤ 59 * 1 := codesP_len (l := [(l.length : Int) - 1]) (by simp; omega)
  have q2 := entsG_len h3 (Int.le_refl 0)
  unfold tapeP; rw [List.length_append]; omega
theorem codesP_bits {l : List Int} : ∀ c ∈ codesP l, c = 48 ∨ c = 49 := fun c h => by
  unfold codesP at h
  obtain ⟨z, _, hc⟩ := List.mem_flatMap.1 h
  exact putP_bits _ _ c hc
theorem entP_bits {m : Int} {x : Ent} : ∀ c ∈ entP m x, c = 48 ∨ c = 49 := fun c h => by
  unfold entP at h
  rcases List.mem_append.1 h with h | h
  · rcases List.mem_append.1 h with h | h
    · exact putP_bits _ _ c h
    · exact codesP_bits c h
  · split at h <;> exact codesP_bits c h
theorem entsG_bits : ∀ {l : List Ent} {m : Int}, ∀ c ∈ entsG m l, c = 48 ∨ c = 49
  | [], _, c, h => by cases h
  | x :: r, m, c, h => by
    rcases List.mem_append.1 h with h | h
    · exact entP_bits c h
    · exact entsG_bits c h
theorem tapeP_bits {l : List Ent} : ∀ c ∈ tapeP l, c = 48 ∨ c = 49 := fun c h => by
  rcases List.mem_append.1 h with h | h
  · exact codesP_bits c h
  · exact entsG_bits c h
/-- the bytes of blocks -/
def bytesP (v : List Bk) : List UInt8 := v.flatMap Bk.l
theorem bytesP_snoc (v : List Bk) (b : Bk) : bytesP (v ++ [b]) = bytesP v ++ b.l := by unfold bytesP; rw [List.flatMap_append]; simp
theorem bytesP_len : ∀ (v : List Bk), (bytesP v).length = 32 * v.length
  | [] => rfl
  | b :: v => by
    have e : bytesP (b :: v) = b.l ++ bytesP v := rfl
    rw [e, List.length_append, b.h, bytesP_len v, List.length_cons]; omega
theorem fillP_len {t : List UInt8} : (fillP t).length ≤ t.length + 3 ∧ 1 ≤ (fillP t).length := by
  have h1 := fsP_len t
  have h2 := nextF_len (fsP t)
  have h3 : 1 ≤ (nextF (fsP t)).v.length := by unfold nextF; split <;> simp
  unfold fillP endF
  split
  · rw [List.length_append]; simp only [List.length_cons, List.length_nil]; omega
  · omega
def encEnt (x : Ent) : List Value := [.int .i64 x.m, .int .i64 x.k, .int .i64 x.h, .int .i64 x.p, .int .i64 x.b, .int .i64 x.t]
theorem isPlace_c (k : Int) (w0 : World) :
    CallsV Tryz.prog 95 [.int .i64 k] w0 (fun v w' => v = .bool (plK k) ∧ Ext w0 w') := by
 refine f_n func95 ?_
 refine go ?_
 refine t_splitp 5 rfl (fun g5 => ?_) (fun g5 => ?_)
 ·
  refine go ?_
  refine f_1 results95 ?_
  exact ⟨by simp [plK, *], u_d⟩
 refine go ?_
 refine f_1 results95 ?_
 exact ⟨by simp [plK, *], u_d⟩

set_option maxHeartbeats 4000000 in
theorem isEntry_c (x : Ent) (w0 : World) :
    CallsV Tryz.prog 93 [.agg #[.int .i64 x.m, .int .i64 x.k, .int .i64 x.h, .int .i64 x.p, .int .i64 x.b, .int .i64 x.t]] w0 (fun v w' => v = .bool (okEnt x) ∧ Ext w0 w') := by
 refine f_n func93 ?_
 refine go ?_
 refine x_b fun bk2 w3 ebk2 sbk2 B4 u5 => ?_
 refine go ?_
 refine x_l fun bk9 w10 ebk9 sbk9 B11 u12 => ?_
 refine x_c func62 rfl rfl (within1_v 0 1000000 x.m bk9 _ _ B11) ?_
 rintro _ w15 ⟨rfl, u16⟩ zu16
 refine go ?_
 refine t_splitp 8 rfl (fun g8 => ?_) (fun g8 => ?_)
 ·
  refine go ?_
  refine f_1 results93 ?_
  exact ⟨congrArg Value.bool (by unfold okEnt; first | exact (decide_eq_false (by omega)).symm | exact (decide_eq_true (by omega)).symm | exact decide_eq_decide.2 (by omega)), u_d⟩
 refine go ?_
 refine x_l fun bk20 w21 ebk20 sbk20 B22 u23 => ?_
 refine x_c func62 rfl rfl (within1_v 1 999 x.h bk20 _ _ B22) ?_
 rintro _ w26 ⟨rfl, u27⟩ zu27
 refine go ?_
 refine t_splitp 15 rfl (fun g15 => ?_) (fun g15 => ?_)
 ·
  refine go ?_
  refine f_1 results93 ?_
  exact ⟨congrArg Value.bool (by unfold okEnt; first | exact (decide_eq_false (by omega)).symm | exact (decide_eq_true (by omega)).symm | exact decide_eq_decide.2 (by omega)), u_d⟩
 refine go ?_
 refine t_splitp 20 rfl (fun g20 => ?_) (fun g20 => ?_)
 ·
  refine go ?_
  refine f_1 results93 ?_
  exact ⟨congrArg Value.bool (by unfold okEnt; first | exact (decide_eq_false (by omega)).symm | exact (decide_eq_true (by omega)).symm | exact decide_eq_decide.2 (by omega)), u_d⟩
 refine go ?_
 refine q_p (fun g24 => ?_) fun g24 => ?_
 ·
  refine go ?_
  refine f_1 results93 ?_
  exact ⟨congrArg Value.bool (by unfold okEnt; first | exact (decide_eq_false (by omega)).symm | exact (decide_eq_true (by omega)).symm | exact decide_eq_decide.2 (by omega)), u_d⟩
 refine go ?_
 refine x_c func95 rfl rfl (isPlace_c x.k _) ?_
 rintro _ w36 ⟨rfl, u37⟩ zu37
 refine go ?_
 refine q_b (fun g27 => ?_) fun g27 => ?_
 ·
  have hk9 : (x.k = 1 ∨ x.k = 3) := by simpa [plK] using g27
  refine go ?_
  refine x_l fun bk41 w42 ebk41 sbk41 B43 u44 => ?_
  refine x_c func62 rfl rfl (within1_v 0 100000 x.p bk41 _ _ B43) ?_
  rintro _ w47 ⟨rfl, u48⟩ zu48
  refine go ?_
  refine t_splitp 32 rfl (fun g32 => ?_) (fun g32 => ?_)
  ·
   refine go ?_
   refine t_splitp 37 rfl (fun g37 => ?_) (fun g37 => ?_)
   ·
    refine go ?_
    refine f_1 results93 ?_
    exact ⟨congrArg Value.bool (by unfold okEnt; first | exact (decide_eq_false (by omega)).symm | exact (decide_eq_true (by omega)).symm | exact decide_eq_decide.2 (by omega)), u_d⟩
   refine go ?_
   refine f_1 results93 ?_
   exact ⟨congrArg Value.bool (by unfold okEnt; first | exact (decide_eq_false (by omega)).symm | exact (decide_eq_true (by omega)).symm | exact decide_eq_decide.2 (by omega)), u_d⟩
  refine go ?_
  refine f_1 results93 ?_
  exact ⟨congrArg Value.bool (by unfold okEnt; first | exact (decide_eq_false (by omega)).symm | exact (decide_eq_true (by omega)).symm | exact decide_eq_decide.2 (by omega)), u_d⟩
 have hk9 : ¬ (x.k = 1 ∨ x.k = 3) := by simpa [plK] using g27
 refine go ?_
 refine t_splitp 45 rfl (fun g45 => ?_) (fun g45 => ?_)
 ·
  refine go ?_
  refine x_l fun bk52 w53 ebk52 sbk52 B54 u55 => ?_
  refine x_c func62 rfl rfl (within1_v 1 9999 x.b bk52 _ _ B54) ?_
  rintro _ w58 ⟨rfl, u59⟩ zu59
  refine go ?_
  refine t_splitp 51 rfl (fun g51 => ?_) (fun g51 => ?_)
  ·
   refine go ?_
   refine x_l fun bk62 w63 ebk62 sbk62 B64 u65 => ?_
   refine x_c func62 rfl rfl (within1_v 1 100000 x.t bk62 _ _ B64) ?_
   rintro _ w68 ⟨rfl, u69⟩ zu69
   refine go ?_
   refine f_1 results93 ?_
   exact ⟨congrArg Value.bool (by unfold okEnt; first | exact (decide_eq_false (by omega)).symm | exact (decide_eq_true (by omega)).symm | exact decide_eq_decide.2 (by omega)), u_d⟩
  refine go ?_
  refine f_1 results93 ?_
  exact ⟨congrArg Value.bool (by unfold okEnt; first | exact (decide_eq_false (by omega)).symm | exact (decide_eq_true (by omega)).symm | exact decide_eq_decide.2 (by omega)), u_d⟩
 refine go ?_
 refine f_1 results93 ?_
 exact ⟨congrArg Value.bool (by unfold okEnt; first | exact (decide_eq_false (by omega)).symm | exact (decide_eq_true (by omega)).symm | exact decide_eq_decide.2 (by omega)), u_d⟩

theorem checkEntries_c (l : List Ent) (al : Option Addr) (bl ol cl : Nat) (w0 : World) (hl : Sl encEnt 6 w0 al bl ol l) (hll : l.length ≤ 1000000000) :
    CallsV Tryz.prog 49 [.slice al l.length cl] w0 (fun v w' => v = .int .i64 (chkE l) ∧ Ext w0 w') := by
 refine f_n func49 ?_
 refine go ?_
 refine q_p (fun g6 => ?_) fun g6 => ?_
 ·
  refine go ?_
  refine f_1 results49 ?_
  exact ⟨by unfold chkE; rw [if_pos (by omega)], u_d⟩
 refine go ?_
 refine q_p (fun g10 => ?_) fun g10 => ?_
 ·
  refine go ?_
  refine f_1 results49 ?_
  exact ⟨by unfold chkE; rw [if_neg (by omega), if_pos (by omega)], u_d⟩
 refine go ?_
 refine x_l2 (fun _ => False) [14, 15] (fun (i : Nat) (m : Int) => [(3, .int .i64 m), (16, .int .i64 (i : Int))]) (fun i m w => (i ≤ l.length) ∧ (chkG m (l.drop i) = chkG 0 l)) (fun i m => l.length - i) 0 0 ⟨(Nat.zero_le _), rfl⟩ ?_
 rintro i m w11 ⟨hi, hc⟩ u12 zu12 K10 hK10
 refine go ?_
 refine q_p (fun g17 => ?_) fun g17 => ?_
 ·
  refine go ?_
  refine g_i i (hl.keep ((Upd.refl (fun _ => False) w0).nx u12) (fun _ h => h)) (fun _ => ?_)
  refine go ?_
  refine x_n fun bk19 w20 ebk19 sbk19 B21 u22 => ?_
  refine x_s fun w24 sw24 B26 u25 => ?_
  refine go ?_
  refine x_c func93 rfl rfl (isEntry_c (nth l i) _) ?_
  rintro _ w31 ⟨rfl, u32⟩ zu32
  refine go ?_
  refine q_b (fun g20 => ?_) fun g20 => ?_
  ·
   refine go ?_
   refine f_1 results49 ?_
   have he : chkE l = chkG 0 l := by unfold chkE; rw [if_neg (by omega), if_neg (by omega)]
   have g22 : okEnt (nth l i) = false := by cases h9 : okEnt (nth l i) <;> simp [h9] at g20 ⊢
   exact ⟨by rw [he, ← hc, drop_nth (by omega)]; unfold chkG; rw [if_neg (by rw [g22]; decide)], u_d⟩
  have g22 : okEnt (nth l i) = true := by cases h9 : okEnt (nth l i) <;> simp [h9] at g20 ⊢
  refine go ?_
  refine q_p (fun g24 => ?_) fun g24 => ?_
  ·
   refine go ?_
   refine f_1 results49 ?_
   have he : chkE l = chkG 0 l := by unfold chkE; rw [if_neg (by omega), if_neg (by omega)]
   exact ⟨by rw [he, ← hc, drop_nth (by omega)]; unfold chkG; rw [if_pos g22, if_pos (by omega)], u_d⟩
  refine go ?_
  exact hK10 (i + 1) ((nth l i).m) ⟨(by omega), (by rw [drop_nth (by omega)] at hc; rw [← hc]; conv => rhs; unfold chkG; rw [if_pos g22, if_neg (by omega)])⟩
 refine go ?_
 refine f_1 results49 ?_
 have he : chkE l = chkG 0 l := by unfold chkE; rw [if_neg (by omega), if_neg (by omega)]
 exact ⟨by rw [he, ← hc, List.drop_of_length_le (by omega)]; rfl, u_d⟩

set_option maxHeartbeats 4000000 in
theorem write_c (l : List Ent) (al : Option Addr) (bl ol cl : Nat) (w0 : World) (hl : Sl encEnt 6 w0 al bl ol l) (hok0 : chkE l = 0) :
    CallsV Tryz.prog 50 [.slice al l.length cl] w0 (fun v w' => (∃ a9 g9 c9, v = .slice a9 (writeP l).length c9 ∧ Acc encBk 32 124 w0.heap.size w' a9 g9 c9 (writeP l)) ∧ Ext w0 w') := by
 obtain ⟨hl1, hl2, hok⟩ := chkE_ok hok0
 have hc0 : (codesP [(l.length : Int) - 1]).length ≤ 59 := by have h9 := codesP_len (l := [(l.length : Int) - 1]) (by simp; omega); simpa using h9
 refine f_n func50 ?_
 refine go ?_
 refine x_n fun bk3 w4 ebk3 sbk3 B5 u6 => ?_
 have hN8 : Acc encY 1 5 w4.heap.size w4 none 0 0 ([] : List UInt8) := Acc.nil _ _ _ _ _ (by omega) (Nat.le_refl _)
 have lt_0 := hN8.lt
 refine go ?_
 refine x_l fun bk10 w11 ebk10 sbk10 B12 u13 => ?_
 have D16 := (hN8.keep u13 (fun _ h => h))
 have B17 := (B5.kx u13)
 refine x_c func63 rfl rfl (code_c ([((l.length : Int) - 1)] : List Int) (some ⟨bk10, 0, none⟩) bk10 0 1 bk3 w4.heap.size none 0 0 ([] : List UInt8) _ B17 D16 (by omega) (by omega) (SlI.own (xs := ([((l.length : Int) - 1)] : List Int)) B12) (by omega) (by simp; omega) (by first | (simp only [List.length_cons, List.length_nil]; omega) | (simp only [List.length_append, List.length_cons, List.length_nil, putP_length] at *; omega) | (have h7 := codesP_len (l := [(nth l j).m - (lastM 0 (l.take j)), (nth l j).h - 1]) (by simp; omega); simp only [List.length_append, List.length_cons, List.length_nil, putP_length] at *; omega))) ?_
 rintro v18 w19 ⟨⟨at15, gt15, ct15, hBt15, hAt15, hGt15⟩, u20⟩ zu20
 have lt_gt15 := hAt15.lt
 refine go ?_
 refine x_l5 (fun i => i = bk3 ∨ (i = gt15 ∧ w4.heap.size ≤ i)) [3, 12, 13] (fun (j : Nat) (a1 : Option Addr) (g1 : Nat) (c1 : Nat) (cur : List UInt8) => [(4, .int .i64 (lastM 0 (l.take j))), (14, .int .i64 (j : Int))]) (fun j a1 g1 c1 cur w => Blk w bk3 118 [.slice a1 cur.length c1] ∧ (j ≤ l.length) ∧ (Acc encY 1 5 w4.heap.size w a1 g1 c1 cur) ∧ (cur = (codesP [(l.length : Int) - 1]) ++ entsG 0 (l.take j)) ∧ ((g1 = gt15 ∨ w19.heap.size ≤ g1))) (fun j a1 g1 c1 cur => l.length - j) 0 at15 gt15 ct15 (([] : List UInt8) ++ codesP ([((l.length : Int) - 1)] : List Int)) ⟨hBt15, (Nat.zero_le _), hAt15, (by simp [entsG]), (.inl rfl)⟩ ?_
 rintro j a1 g1 c1 cur w27 ⟨I29, hi, hA, hcu, hg1⟩ u28 zu28 K26 hK26
 have lt_g1 := hA.lt
 have hlen1 := entsG_len (chkG_take j hok) (Int.le_refl 0)
 rw [List.length_take, Nat.min_eq_left hi] at hlen1
 have hcl := congrArg List.length hcu
 simp only [List.length_append] at hcl
 refine go ?_
 refine q_p (fun g15 => ?_) fun g15 => ?_
 ·
  obtain ⟨hx0, hasc⟩ := chkG_at hok (show j < l.length by omega)
  have hx := okEnt_iff hx0
  obtain ⟨x1, x2, x3, x4, x5, x6, x7⟩ := hx
  have hm0 : 0 ≤ (lastM 0 (l.take j)) := lastM_ge (chkG_take j hok)
  refine go ?_
  refine g_i j (hl.keep (((((Upd.refl (fun _ => False) w0).nx u6).nx u13).next u20 (fun i hi h => by omega)).next u28 (fun i hi h => by omega)) (fun _ h => h)) (fun _ => ?_)
  refine go ?_
  refine x_n fun bk36 w37 ebk36 sbk36 B38 u39 => ?_
  refine x_s fun w41 sw41 B43 u42 => ?_
  iterate 7 refine st1 ?_
  refine t_same 20 (v := .int .i64 (((nth l j).k - 1).toNat : Int)) rfl (congrArg (Value.int .i64) (by omega)) (t_conv underlying41 underlying120 rfl rfl rfl (IntWalk.u64_in _ (by omega)) ?_)
  have D47 := ((hA.keep u39 (fun _ h => h)).keep u42 (fun hb => show ¬ (g1 = bk36) by first | omega | assumption))
  have B48 := ((I29.kx u39).keep u42 (by omega))
  refine x_c func94 rfl rfl (put_c (((nth l j).k - 1).toNat) 2 bk3 w4.heap.size a1 g1 c1 cur _ B48 D47 (by omega) (by omega) (by omega) (by decide) (by simp only [List.length_append] at *; omega)) ?_
  rintro v49 w50 ⟨⟨at46, gt46, ct46, hBt46, hAt46, hGt46⟩, u51⟩ zu51
  have lt_gt46 := hAt46.lt
  refine go ?_
  refine x_l fun bk55 w56 ebk55 sbk55 B57 u58 => ?_
  have D61 := (hAt46.keep u58 (fun _ h => h))
  have B62 := (hBt46.kx u58)
  refine x_c func63 rfl rfl (code_c ([(((nth l j).m) - (lastM 0 (l.take j))), (((nth l j).h) - 1)] : List Int) (some ⟨bk55, 0, none⟩) bk55 0 2 bk3 w4.heap.size at46 gt46 ct46 (cur ++ putP (((nth l j).k - 1).toNat) 2) _ B62 D61 (by omega) (by omega) (SlI.own (xs := ([(((nth l j).m) - (lastM 0 (l.take j))), (((nth l j).h) - 1)] : List Int)) B57) (by omega) (by simp; omega) (by first | (simp only [List.length_cons, List.length_nil]; omega) | (simp only [List.length_append, List.length_cons, List.length_nil, putP_length] at *; omega) | (have h7 := codesP_len (l := [(nth l j).m - (lastM 0 (l.take j)), (nth l j).h - 1]) (by simp; omega); simp only [List.length_append, List.length_cons, List.length_nil, putP_length] at *; omega))) ?_
  rintro v63 w64 ⟨⟨at60, gt60, ct60, hBt60, hAt60, hGt60⟩, u65⟩ zu65
  have lt_gt60 := hAt60.lt
  refine go ?_
  refine x_c func95 rfl rfl (isPlace_c ((nth l j).k) _) ?_
  rintro _ w71 ⟨rfl, u72⟩ zu72
  refine go ?_
  refine q_b (fun g36 => ?_) fun g36 => ?_
  ·
   have hk9 : ((nth l j).k = 1 ∨ (nth l j).k = 3) := by simpa [plK] using g36
   refine go ?_
   refine x_l fun bk75 w76 ebk75 sbk75 B77 u78 => ?_
   have D81 := ((hAt60.keep u72 (fun _ h => h)).keep u78 (fun _ h => h))
   have B82 := ((hBt60.kx u72).kx u78)
   refine x_c func63 rfl rfl (code_c ([(nth l j).p] : List Int) (some ⟨bk75, 0, none⟩) bk75 0 1 bk3 w4.heap.size at60 gt60 ct60 ((cur ++ putP (((nth l j).k - 1).toNat) 2) ++ codesP ([(((nth l j).m) - (lastM 0 (l.take j))), (((nth l j).h) - 1)] : List Int)) _ B82 D81 (by omega) (by omega) (SlI.own (xs := ([(nth l j).p] : List Int)) B77) (by omega) (by simp; omega) (by first | (simp only [List.length_cons, List.length_nil]; omega) | (simp only [List.length_append, List.length_cons, List.length_nil, putP_length] at *; omega) | (have h7 := codesP_len (l := [(nth l j).m - (lastM 0 (l.take j)), (nth l j).h - 1]) (by simp; omega); simp only [List.length_append, List.length_cons, List.length_nil, putP_length] at *; omega))) ?_
   rintro v83 w84 ⟨⟨at80, gt80, ct80, hBt80, hAt80, hGt80⟩, u85⟩ zu85
   have lt_gt80 := hAt80.lt
   refine go ?_
   exact hK26 (j + 1) at80 gt80 ct80 (((cur ++ putP (((nth l j).k - 1).toNat) 2) ++ codesP ([(((nth l j).m) - (lastM 0 (l.take j))), (((nth l j).h) - 1)] : List Int)) ++ codesP ([(nth l j).p] : List Int)) ⟨hBt80, (by omega), hAt80, (by rw [take_nth (by omega), entsG_snoc, ← List.append_assoc, ← hcu]; unfold entP; rw [if_pos (by exact g36)]; simp only [List.append_assoc]), (by omega)⟩ (hs := by exact ⟨(congrArg (fun z => some (Value.int .i64 z)) (by rw [take_nth (by omega), lastM_snoc])), rfl, rfl, rfl, rfl, trivial⟩)
  have hk9 : ¬ ((nth l j).k = 1 ∨ (nth l j).k = 3) := by simpa [plK] using g36
  have x8 := x7 hk9
  refine go ?_
  refine x_l fun bk88 w89 ebk88 sbk88 B90 u91 => ?_
  have D94 := ((hAt60.keep u72 (fun _ h => h)).keep u91 (fun _ h => h))
  have B95 := ((hBt60.kx u72).kx u91)
  refine x_c func63 rfl rfl (code_c ([(((nth l j).b) - 1), (((nth l j).t) - 1)] : List Int) (some ⟨bk88, 0, none⟩) bk88 0 2 bk3 w4.heap.size at60 gt60 ct60 ((cur ++ putP (((nth l j).k - 1).toNat) 2) ++ codesP ([(((nth l j).m) - (lastM 0 (l.take j))), (((nth l j).h) - 1)] : List Int)) _ B95 D94 (by omega) (by omega) (SlI.own (xs := ([(((nth l j).b) - 1), (((nth l j).t) - 1)] : List Int)) B90) (by omega) (by simp; omega) (by first | (simp only [List.length_cons, List.length_nil]; omega) | (simp only [List.length_append, List.length_cons, List.length_nil, putP_length] at *; omega) | (have h7 := codesP_len (l := [(nth l j).m - (lastM 0 (l.take j)), (nth l j).h - 1]) (by simp; omega); simp only [List.length_append, List.length_cons, List.length_nil, putP_length] at *; omega))) ?_
  rintro v96 w97 ⟨⟨at93, gt93, ct93, hBt93, hAt93, hGt93⟩, u98⟩ zu98
  have lt_gt93 := hAt93.lt
  refine go ?_
  exact hK26 (j + 1) at93 gt93 ct93 (((cur ++ putP (((nth l j).k - 1).toNat) 2) ++ codesP ([(((nth l j).m) - (lastM 0 (l.take j))), (((nth l j).h) - 1)] : List Int)) ++ codesP ([(((nth l j).b) - 1), (((nth l j).t) - 1)] : List Int)) ⟨hBt93, (by omega), hAt93, (by rw [take_nth (by omega), entsG_snoc, ← List.append_assoc, ← hcu]; unfold entP; rw [if_neg (by rw [g36]; decide)]; simp only [List.append_assoc]), (by omega)⟩ (hs := by exact ⟨(congrArg (fun z => some (Value.int .i64 z)) (by rw [take_nth (by omega), lastM_snoc])), rfl, rfl, rfl, rfl, trivial⟩)
 have hcb : ∀ c ∈ cur, c = 48 ∨ c = 49 := by
   have h9 : j = l.length := by omega
   rw [h9, List.take_length] at hcu
   intro c hc
   rw [hcu] at hc
   exact tapeP_bits (l := l) c hc
 refine go ?_
 refine x_c func96 rfl rfl (fill_c cur a1 g1 0 c1 _ (hA.sl (fun _ => rfl)) hcb (by omega)) ?_
 rintro _ w103 ⟨⟨a9, g9, c9, rfl, hF9⟩, u104⟩ zu104
 have lt_g9 := hF9.lt
 refine go ?_
 refine f_1 results50 ?_
 have hil : j = l.length := by omega
 subst hil
 rw [List.take_length] at hcu
 have hcur : cur = tapeP l := hcu
 subst hcur
 exact ⟨⟨a9, g9, c9, rfl, hF9.lowP (Nat.lt_of_lt_of_le Nat.zero_lt_one fillP_len.2) (by omega)⟩, u_d⟩

end Go.Proofs.YtjdcpnaocjddoaaGreatDoor
namespace Go.Proofs.YtjdcpnaocjddoaaGreatDoor
open Go Go.RowKit Go.Proofs.Tryz
theorem bytes_c (v : List Bk) (av : Option Addr) (bv ov cv : Nat) (w0 : World) (hv : Sl encBk 32 w0 av bv ov v) (hvl : v.length ≤ 30000) (hpos : 0 < w0.heap.size) :
    CallsV Tryz.prog 51 [.slice av v.length cv] w0 (fun v' w' => (∃ a9 g9 c9, v' = .slice a9 (bytesP v).length c9 ∧ Acc encY 1 5 w0.heap.size w' a9 g9 c9 (bytesP v)) ∧ Ext w0 w') := by
 refine f_n func51 ?_
 refine go ?_
 refine x_l4 (fun _ => False) [5, 6] (fun (i : Nat) (a1 : Option Addr) (g1 : Nat) (c1 : Nat) => [(2, .slice a1 ((bytesP (v.take i)).length) c1), (7, .int .i64 (i : Int))]) (fun i a1 g1 c1 w => (i ≤ v.length) ∧ (Acc encY 1 5 w0.heap.size w a1 g1 c1 (bytesP (v.take i)))) (fun i a1 g1 c1 => v.length - i) 0 none 0 0 ⟨(Nat.zero_le _), (Acc.nil _ _ _ _ _ hpos (by omega))⟩ ?_
 rintro i a1 g1 c1 w5 ⟨hi, hA⟩ u6 zu6 K4 hK4
 have E7 := Sc.mk ((Upd.refl (fun _ => False) w0).nx u6)
 have lt_g1 := hA.lt
 have hbl := bytesP_len (v.take i)
 rw [List.length_take, Nat.min_eq_left hi] at hbl
 have hel := (nth v i).h
 refine go ?_
 refine q_p (fun g8 => ?_) fun g8 => ?_
 ·
  refine go ?_
  refine g_i i (hv.keep E7.u (fun _ h => h)) (fun _ => ?_)
  refine t_ldY (l := (nth v i).l) isAgg124 sizeOf124 rfl rfl rfl ((hv.keep E7.u (fun _ h => h)).at_ i (by omega)) (Bk.h (nth v i)) (t_alloc (cs := (ys (List.replicate 32 (0 : UInt8)))) zeroValue124 (by kernel_rfl) rfl rfl (fun bk13 w14 ebk13 sbk13 B15 u16 => ?_))
  refine t_stY sizeOf124 rfl rfl rfl B15 (Bk.h (nth v i)) (by rw [ys_length]; exact (by first | omega | simp | assumption)) (fun w18 sw18 B20 u19 => ?_)
  refine go ?_
  refine t_arrS 0 32 underlying124 sizeOf5 rfl rfl rfl (.inr ⟨rfl, rfl⟩) (k := .i64) (m := 0) (x1 := .tmp 0) (.inr ⟨rfl, rfl⟩) (k' := .i64) (q := 0) (x2 := .tmp 0) (by omega) (by omega) (by omega) (t_same 12 (v := .slice (some ⟨bk13, 0 + 0 * 1, none⟩) ((nth v i).l.length) 32) rfl (by rw [(nth v i).h]) ?_)
  have D22 := ((hA.keep u16 (fun _ h => h)).keep u19 (fun hb => show ¬ (g1 = bk13) by first | omega | assumption))
  refine t_appendAll (enc := encY) (z := .int .u8 0) (bytes := 1) (k := 1) (base := w0.heap.size) (xs := (bytesP (v.take i))) (ys := (nth v i).l) underlying25 (by kernel_rfl) rfl (by decide) (fun _ => rfl) (by intro x; simp [encY, Value.oneCell']) rfl rfl rfl rfl D22 (SlY.own B20) (by omega) (by omega) (by omega) (by decide) (fun ao23 gb24 cp25 w26 A27 u28 gegb24 lngb24 => ?_)
  have zu28 := u28.size
  have lt_gb24 := A27.lt
  refine go ?_
  exact hK4 (i + 1) ao23 gb24 cp25 ⟨(by omega), (by rw [take_nth (by omega), bytesP_snoc]; exact A27)⟩ (hs := by exact ⟨(congrArg some (by rw [take_nth (by omega), bytesP_snoc])), rfl, rfl, rfl, trivial⟩)
 refine go ?_
 refine f_1 results51 ?_
 have hiv : v.take i = v := List.take_of_length_le (by omega)
 exact ⟨⟨a1, g1, c1, by rw [hiv], by rw [hiv] at hA; exact hA⟩, u_d⟩

/-- the log of entries -/
def logP (l : List Ent) : List UInt8 := if chkE l = 0 then bytesP (writeP l) else []
theorem writeP_len {l : List Ent} (h : chkE l = 0) : (writeP l).length ≤ 30000 ∧ 1 ≤ (writeP l).length := by
  have h1 := tapeP_len h
  have h2 := chkE_ok h
  have h3 := fsP_len (tapeP l)
  have h4 := nextF_len (fsP (tapeP l))
  have h5 := fillP_len (t := tapeP l)
  refine ⟨?_, h5.2⟩
  show (endF (nextF (fsP (tapeP l)))).length ≤ 30000
  unfold endF
  split
  · rw [List.length_append]; simp only [List.length_cons, List.length_nil]; omega
  · omega

theorem WriteLog_c (l : List Ent) (al : Option Addr) (bl ol cl : Nat) (w0 : World) (hl : Sl encEnt 6 w0 al bl ol l) (hll : l.length ≤ 1000000000) (hpos : 0 < w0.heap.size) :
    CallsV Tryz.prog 15 [.slice al l.length cl] w0 (fun v w' => (∃ a9 g9 c9, v = .tuple #[.slice a9 (logP l).length c9, .int .i64 (chkE l)] ∧ Acc encY 1 5 w0.heap.size w' a9 g9 c9 (logP l)) ∧ Ext w0 w') := by
 refine f_n func15 ?_
 refine go ?_
 refine x_c func49 rfl rfl (checkEntries_c l al bl ol cl _ hl (by omega)) ?_
 rintro _ w6 ⟨rfl, u7⟩ zu7
 refine go ?_
 refine q_p (fun g8 => ?_) fun g8 => ?_
 ·
  refine go ?_
  refine f_ret2 (v1 := .slice none 0 0) (v2 := .int .i64 (chkE l)) results15 rfl rfl ?_
  exact ⟨⟨none, 0, 0, by unfold logP; rw [if_neg (by omega)]; rfl, by unfold logP; rw [if_neg (by omega)]; exact Acc.nil _ _ _ _ _ hpos (by omega)⟩, u_d⟩
 have hok0 : chkE l = 0 := by omega
 have hwl := writeP_len hok0
 refine go ?_
 refine x_c func50 rfl rfl (write_c l al bl ol cl _ (hl.keep ((Upd.refl (fun _ => False) w0).nx u7) (fun _ h => h)) hok0) ?_
 rintro _ w15 ⟨⟨ar13, gr13, cr13, rfl, hFr13⟩, u16⟩ zu16
 have lt_gr13 := hFr13.lt
 refine x_c func51 rfl rfl (bytes_c (writeP l) ar13 gr13 0 cr13 _ (hFr13.sl encBk_len) (by omega) (by omega)) ?_
 rintro _ w21 ⟨⟨ay19, gy19, cy19, rfl, hFy19⟩, u22⟩ zu22
 have lt_gy19 := hFy19.lt
 refine go ?_
 refine f_ret2 (v1 := .slice ay19 ((bytesP (writeP l)).length) cy19) (v2 := .int .i64 0) results15 rfl rfl ?_
 have hlg : logP l = bytesP (writeP l) := by unfold logP; rw [if_pos hok0]
 exact ⟨⟨ay19, gy19, cy19, by rw [hlg, hok0], by rw [hlg]; exact Acc.lowP hFy19 (by rw [bytesP_len]; omega) (by omega)⟩, u_d⟩

end Go.Proofs.YtjdcpnaocjddoaaGreatDoor
namespace Go.Proofs
open Go.Shelf
def YtjdcpnaocjddoaaGreatDoor.layJoin_ren : Go.Shelf.Ren := ⟨fun | 156 => 147 | 165 => 168 | 166 => 119 | 169 => 120 | 240 => 150 | 241 => 184 | 276 => 172 | 277 => 200 | n => n, fun | 31 => 105 | 9 => 9 | 3 => 3 | 4 => 4 | 0 => 0 | 20 => 20 | 72 => 190 | 76 => 193 | 70 => 188 | 37 => 25 | 75 => 192 | 127 => 218 | 164 => 230 | 5 => 5 | 80 => 195 | n => n, fun | n => n⟩
theorem YtjdcpnaocjddoaaGreatDoor.layJoin : Go.Proofs.Lays.n156 Tryz.prog YtjdcpnaocjddoaaGreatDoor.layJoin_ren := {
  mixed := by kernel_rfl
  f156 := Tryz.func147.trans (congrArg some (by kernel_rfl))
  f165 := Tryz.func168.trans (congrArg some (by kernel_rfl))
  f166 := Tryz.func119.trans (congrArg some (by kernel_rfl))
  f169 := Tryz.func120.trans (congrArg some (by kernel_rfl))
  f240 := Tryz.func150.trans (congrArg some (by kernel_rfl))
  f241 := Tryz.func184.trans (congrArg some (by kernel_rfl))
  f276 := Tryz.func172.trans (congrArg some (by kernel_rfl))
  f277 := Tryz.func200.trans (congrArg some (by kernel_rfl))
  t0 := Tryz.underlying0
  a0 := Tryz.isAgg0
  z0 := Tryz.sizeOf0
  v0 := Tryz.zeroValue0
  t3 := Tryz.underlying3
  a3 := Tryz.isAgg3
  z3 := Tryz.sizeOf3
  v3 := Tryz.zeroValue3
  t4 := Tryz.underlying4
  a4 := Tryz.isAgg4
  z4 := Tryz.sizeOf4
  v4 := Tryz.zeroValue4
  t9 := Tryz.underlying9
  a9 := Tryz.isAgg9
  z9 := Tryz.sizeOf9
  v9 := Tryz.zeroValue9
  t20 := Tryz.underlying20
  a20 := Tryz.isAgg20
  z20 := Tryz.sizeOf20
  v20 := Tryz.zeroValue20
  t31 := Tryz.underlying105
  a31 := Tryz.isAgg105
  z31 := Tryz.sizeOf105
  v31 := Tryz.zeroValue105
  t37 := Tryz.underlying25
  a37 := Tryz.isAgg25
  z37 := Tryz.sizeOf25
  v37 := Tryz.zeroValue25
  t70 := Tryz.underlying188
  a70 := Tryz.isAgg188
  z70 := Tryz.sizeOf188
  v70 := Tryz.zeroValue188
  t72 := Tryz.underlying190
  a72 := Tryz.isAgg190
  z72 := Tryz.sizeOf190
  v72 := Tryz.zeroValue190
  t75 := Tryz.underlying192
  a75 := Tryz.isAgg192
  z75 := Tryz.sizeOf192
  v75 := Tryz.zeroValue192
  t76 := Tryz.underlying193
  a76 := Tryz.isAgg193
  z76 := Tryz.sizeOf193
  v76 := Tryz.zeroValue193
  t127 := Tryz.underlying218
  a127 := Tryz.isAgg218
  z127 := Tryz.sizeOf218
  v127 := Tryz.zeroValue218
  t164 := Tryz.underlying230
  a164 := Tryz.isAgg230
  z164 := Tryz.sizeOf230
  v164 := Tryz.zeroValue230 }
def YtjdcpnaocjddoaaGreatDoor.layItoa_ren : Go.Shelf.Ren := ⟨fun | 171 => 145 | 243 => 167 | 246 => 183 | 283 => 196 | 284 => 197 | 285 => 198 | 286 => 199 | 129 => 143 | 317 => 205 | 318 => 206 | 319 => 207 | 320 => 208 | 337 => 209 | 338 => 210 | n => n, fun | 3 => 3 | 9 => 9 | 2 => 2 | 4 => 4 | 171 => 249 | 0 => 0 | 53 => 214 | 37 => 25 | 5 => 5 | 173 => 251 | 212 => 266 | 51 => 97 | 20 => 20 | 213 => 267 | 46 => 120 | 232 => 123 | 233 => 268 | n => n, fun | 17 => 5 | 18 => 6 | 19 => 7 | n => n⟩
theorem YtjdcpnaocjddoaaGreatDoor.layItoa : Go.Proofs.LaysM.n171 Tryz.prog YtjdcpnaocjddoaaGreatDoor.layItoa_ren := {
  mixed := by kernel_rfl
  f129 := Tryz.func143.trans (congrArg some (by kernel_rfl))
  f171 := Tryz.func145.trans (congrArg some (by kernel_rfl))
  f243 := Tryz.func167.trans (congrArg some (by kernel_rfl))
  f246 := Tryz.func183.trans (congrArg some (by kernel_rfl))
  f283 := Tryz.func196.trans (congrArg some (by kernel_rfl))
  f284 := Tryz.func197.trans (congrArg some (by kernel_rfl))
  f285 := Tryz.func198.trans (congrArg some (by kernel_rfl))
  f286 := Tryz.func199.trans (congrArg some (by kernel_rfl))
  f317 := Tryz.func205.trans (congrArg some (by kernel_rfl))
  f318 := Tryz.func206.trans (congrArg some (by kernel_rfl))
  f319 := Tryz.func207.trans (congrArg some (by kernel_rfl))
  f320 := Tryz.func208.trans (congrArg some (by kernel_rfl))
  f337 := Tryz.func209.trans (congrArg some (by kernel_rfl))
  f338 := Tryz.func210.trans (congrArg some (by kernel_rfl))
  t0 := Tryz.underlying0
  a0 := Tryz.isAgg0
  z0 := Tryz.sizeOf0
  v0 := Tryz.zeroValue0
  t2 := Tryz.underlying2
  a2 := Tryz.isAgg2
  z2 := Tryz.sizeOf2
  v2 := Tryz.zeroValue2
  t3 := Tryz.underlying3
  a3 := Tryz.isAgg3
  z3 := Tryz.sizeOf3
  v3 := Tryz.zeroValue3
  t4 := Tryz.underlying4
  a4 := Tryz.isAgg4
  z4 := Tryz.sizeOf4
  v4 := Tryz.zeroValue4
  t5 := Tryz.underlying5
  a5 := Tryz.isAgg5
  z5 := Tryz.sizeOf5
  v5 := Tryz.zeroValue5
  t9 := Tryz.underlying9
  a9 := Tryz.isAgg9
  z9 := Tryz.sizeOf9
  v9 := Tryz.zeroValue9
  t20 := Tryz.underlying20
  a20 := Tryz.isAgg20
  z20 := Tryz.sizeOf20
  v20 := Tryz.zeroValue20
  t37 := Tryz.underlying25
  a37 := Tryz.isAgg25
  z37 := Tryz.sizeOf25
  v37 := Tryz.zeroValue25
  t46 := Tryz.underlying120
  a46 := Tryz.isAgg120
  z46 := Tryz.sizeOf120
  v46 := Tryz.zeroValue120
  t51 := Tryz.underlying97
  a51 := Tryz.isAgg97
  z51 := Tryz.sizeOf97
  v51 := Tryz.zeroValue97
  t53 := Tryz.underlying214
  a53 := Tryz.isAgg214
  z53 := Tryz.sizeOf214
  v53 := Tryz.zeroValue214
  t171 := Tryz.underlying249
  a171 := Tryz.isAgg249
  z171 := Tryz.sizeOf249
  v171 := Tryz.zeroValue249
  t173 := Tryz.underlying251
  a173 := Tryz.isAgg251
  z173 := Tryz.sizeOf251
  v173 := Tryz.zeroValue251
  t212 := Tryz.underlying266
  a212 := Tryz.isAgg266
  z212 := Tryz.sizeOf266
  v212 := Tryz.zeroValue266
  t213 := Tryz.underlying267
  a213 := Tryz.isAgg267
  z213 := Tryz.sizeOf267
  t232 := Tryz.underlying123
  a232 := Tryz.isAgg123
  z232 := Tryz.sizeOf123
  v232 := Tryz.zeroValue123
  t233 := Tryz.underlying268
  a233 := Tryz.isAgg268
  z233 := Tryz.sizeOf268
  v233 := Tryz.zeroValue268
  g17 := by kernel_rfl
  g18 := by kernel_rfl
  g19 := by kernel_rfl
  i0 := by kernel_rfl
  i2 := by kernel_rfl
  i3 := by kernel_rfl
  i4 := by kernel_rfl
  i5 := by kernel_rfl
  i9 := by kernel_rfl
  i20 := by kernel_rfl
  i37 := by kernel_rfl
  i46 := by kernel_rfl
  i51 := by kernel_rfl
  i53 := by kernel_rfl
  i171 := by kernel_rfl
  i173 := by kernel_rfl
  i212 := by kernel_rfl
  i232 := by kernel_rfl
  i233 := by kernel_rfl
  m17 := by kernel_rfl
  m18 := by kernel_rfl
  m19 := by kernel_rfl }
end Go.Proofs
namespace Go.Proofs.YtjdcpnaocjddoaaGreatDoor
open Go Go.RowKit Go.Proofs.Tryz Go.Shelf
def encStr (x : List UInt8) : List Value := [.string (strB x)]
theorem extraJ : Builder.Extra Tryz.prog layJoin_ren where
  sizeBuilder := by kernel_rfl
  liesBuilder := by kernel_rfl
  t5 := underlying5
  a5 := isAgg5
  z5 := sizeOf5
  v5 := zeroValue5
  infoByte := by kernel_rfl
  cellsByte := by kernel_rfl
  sizeByte := by kernel_rfl
  neB5 := by decide
/-- The table of powers of ten that strconv reads. -/
def Tab10 (w : World) : Prop := Lib.TabIs Tryz.prog w "internal/strconv.uint64pow10" .u64 Lib.pow10Tab
theorem grow_ext (w : World) (k : Nat) (os : Array Obj) : Ext w (Go.Sort.grow (w.drewN k) os) := by
  refine ⟨rfl, rfl, rfl, ?_, fun i hi _ => ?_⟩
  · show w.heap.size ≤ (w.heap ++ os).size
    rw [Array.size_append]; omega
  · show (w.heap ++ os)[i]? = w.heap[i]?
    rw [Array.getElem?_append_left hi]
theorem Tab10.keep {w w' : World} {S : Nat → Prop} (h : Tab10 w) (u : Upd S w w') (hS : ∀ g, Tryz.prog.globalNamed "internal/strconv.uint64pow10" = some g → ¬ S g) : Tab10 w' := by
  unfold Tab10 Lib.TabIs World.var? at *
  cases hg : Tryz.prog.globalNamed "internal/strconv.uint64pow10" with
  | none => rw [hg] at h; cases h
  | some g =>
    rw [hg] at h
    have h : (match w.heap[g]? with | some (.cells cs _ _) => some cs | _ => none) = some (Lib.pow10Tab.map fun z => Value.int .u64 z).toArray := h
    show (match w'.heap[g]? with | some (.cells cs _ _) => some cs | _ => none) = some (Lib.pow10Tab.map fun z => Value.int .u64 z).toArray
    have hlt : g < w.heap.size := by
      rcases Nat.lt_or_ge g w.heap.size with q | q
      · exact q
      · rw [Array.getElem?_eq_none q] at h; cases h
    rw [u.block g hlt (hS g hg)]
    exact h
theorem Tab10.ext {w w' : World} (h : Tab10 w) (u : Ext w w') : Tab10 w' := h.keep u (fun _ _ h => h)
theorem itoa_c (n : Int) (w0 : World) (hn : -9223372036854775808 ≤ n ∧ n ≤ 9223372036854775807) (ht : Tab10 w0) : CallsV Tryz.prog 145 [.int .i64 n] w0 fun v w' => v = .string (strB (Lib.itoa n)) ∧ Ext w0 w' := by
  refine Calls.mono (Any.strconv_Itoa layItoa n hn.1 hn.2 w0 ht) ?_
  rintro e w' ⟨rfl, k, os, rfl⟩
  exact ⟨_, rfl, rfl, grow_ext w0 k os⟩
theorem strB_data (l : List UInt8) : (strB l).data.toList = l := by simp [strB]
theorem join_c (xs : List (List UInt8)) (sep : List UInt8) (ao : Option Addr) (b o c : Nat) (w0 : World) (hs : Sl encStr 1 w0 ao b o xs) (hc : xs.length ≤ c) (hl : (Lib.join xs sep).length ≤ 1000000) (hn : xs.length ≤ 1000000) : CallsV Tryz.prog 147 [.slice ao xs.length c, .string (strB sep)] w0 fun v w' => v = .string (strB (Lib.join xs sep)) ∧ Ext w0 w' := by
  have em : (xs.map strB).map (·.data.toList) = xs := by
    rw [List.map_map]
    conv => rhs; rw [← List.map_id xs]
    exact List.map_congr_left fun x _ => strB_data x
  rcases Nat.eq_zero_or_pos xs.length with h0 | h0
  · have h0 : xs = [] := List.eq_nil_of_length_eq_zero h0
    subst h0
    refine Calls.mono (Any.strings_Join_none layJoin extraJ ao c (strB sep) w0) ?_
    rintro e w' ⟨rfl, rfl⟩
    exact ⟨_, rfl, rfl, Upd.refl _ _⟩
  · have ha := hs.addr h0
    subst ha
    have h := Any.strings_Join layJoin extraJ b o c (xs.map strB) (strB sep) w0 (fun j x hj => by
        rw [List.getElem?_map] at hj
        cases hx : xs[j]? with
        | none => rw [hx] at hj; cases hj
        | some y =>
          rw [hx] at hj
          injection hj with hj
          obtain ⟨h1, h2⟩ := List.getElem?_eq_some_iff.1 hx
          have h9 := hs.at_ j h1 0 (.string (strB (nth xs j))) rfl
          rw [nth_eq h1, h2, hj] at h9
          simpa using h9) (hs.lt h0) (by rw [List.length_map]; omega) (by rw [List.length_map]; exact hc) (by rw [em, strB_data]; omega)
    rw [List.length_map] at h
    refine Calls.mono h ?_
    rintro e w' ⟨rfl, hb⟩
    exact ⟨_, rfl, by rw [em, strB_data]; rfl, Below.ext hb⟩
/-- A builder's block, all of it from B on. -/
def BuiM (B b : Nat) (l : List UInt8) (w : World) : Prop := Lib.IsBuilder 190 5 B b (Lib.byteCells l) w
theorem wstr_c (B b : Nat) (l s : List UInt8) (w0 : World) (h : BuiM B b l w0) (hl : l.length + s.length ≤ 1000000000) (hB : B ≤ w0.heap.size) : CallsV Tryz.prog 119 [.pointer (some ⟨b, 0, none⟩), .string (strB s)] w0 fun _ w' => BuiM B b (l ++ s) w' ∧ Upd (fun i => B ≤ i) w0 w' := by
  refine Calls.mono (Any.Builder_WriteString { layJoin with } extraJ B b (Lib.byteCells l) (strB s) w0 h (by rw [Lib.byteCells_length, strB_size]; omega) hB) ?_
  rintro e w' ⟨rfl, hb, hw⟩
  refine ⟨_, rfl, .inr ?_, hw.os, hw.tape, hw.output, hw.size, fun k _ hn => hw.block k (by omega)⟩
  have e : Lib.byteCells (l ++ s) = Lib.byteCells l ++ Lib.strCells (strB s) := by simp [Lib.byteCells, Lib.strCells, strB]
  rw [e]; exact hb
theorem bstr_c (B b : Nat) (l : List UInt8) (w0 : World) (h : BuiM B b l w0) (hB : B ≤ w0.heap.size) : CallsV Tryz.prog 120 [.pointer (some ⟨b, 0, none⟩)] w0 fun v w' => v = .string (strB l) ∧ Upd (fun i => B ≤ i) w0 w' := by
  refine Calls.mono (Any.Builder_String_any { layJoin with } extraJ B b l w0 h hB) ?_
  rintro e w' ⟨rfl, hw⟩
  exact ⟨_, rfl, rfl, hw.os, hw.tape, hw.output, hw.size, fun k _ hn => hw.block k (by omega)⟩

end Go.Proofs.YtjdcpnaocjddoaaGreatDoor
namespace Go.Proofs.YtjdcpnaocjddoaaGreatDoor
open Go Go.RowKit Go.Proofs.Tryz
/-! ### bills of lading -/
structure Bil where
  n : Int
  c : Int
  t : Int
  f : Int
  o : Int
  s : List Int
  ao : Option Addr
  g : Nat
  ob : Nat
  cp : Nat
instance : Inhabited Bil := ⟨⟨0, 0, 0, 0, 0, [], none, 0, 0, 0⟩⟩
def encBil (x : Bil) : List Value := [.int .i64 x.n, .int .i64 x.c, .int .i64 x.t, .int .i64 x.f, .int .i64 x.o, .slice x.ao x.s.length x.cp]
def sealG (m : Int) : List Int → Bool
  | [] => true
  | n :: r => if m + 1 ≤ n ∧ n ≤ 99999 then sealG n r else false
def okBill (x : Bil) : Bool := sealG 0 x.s && decide ((1 ≤ x.n ∧ x.n ≤ 9999) ∧ (0 ≤ x.c ∧ x.c ≤ 99) ∧ (1 ≤ x.t ∧ x.t ≤ 100000) ∧ ((0 ≤ x.f ∧ x.f ≤ 100000) ∧ (0 ≤ x.o ∧ x.o ≤ 100000)) ∧ x.f ≠ x.o ∧ x.s.length ≤ 10)
theorem okBill_iff {x : Bil} (h : okBill x = true) : sealG 0 x.s = true ∧ (1 ≤ x.n ∧ x.n ≤ 9999) ∧ (0 ≤ x.c ∧ x.c ≤ 99) ∧ (1 ≤ x.t ∧ x.t ≤ 100000) ∧ ((0 ≤ x.f ∧ x.f ≤ 100000) ∧ (0 ≤ x.o ∧ x.o ≤ 100000)) ∧ x.f ≠ x.o ∧ x.s.length ≤ 10 := by
  unfold okBill at h
  rw [Bool.and_eq_true, decide_eq_true_eq] at h
  exact h
theorem sealG_mem : ∀ {l : List Int} {m : Int}, 0 ≤ m → sealG m l = true → ∀ n ∈ l, 0 ≤ n ∧ n ≤ 99999
  | [], _, _, _, _, hn => by cases hn
  | x :: r, m, hm, h, n, hn => by
    unfold sealG at h
    split at h
    · rcases List.mem_cons.1 hn with rfl | hn
      · omega
      · exact sealG_mem (by omega) h n hn
    · cases h
/-- a line with its check letters -/
def sealP (s : List UInt8) : List UInt8 := s ++ [UInt8.ofNat (97 + weighP s 673 / 26).toNat] ++ [UInt8.ofNat (97 + weighP s 673 % 26).toNat] ++ [10]
def sealedP (ws : List (List UInt8)) : List UInt8 := sealP (Lib.join ws [32] ++ [32])
def sealsP (l : List Int) : List (List UInt8) := if l.length = 0 then [[45]] else l.map Lib.itoa
def billP (x : Bil) : List UInt8 := sealedP [Lib.itoa x.n, Lib.itoa x.c, Lib.itoa x.t, Lib.itoa x.f ++ [62] ++ Lib.itoa x.o, Lib.join (sealsP x.s) [44]]
theorem weighP_r (l : List UInt8) : 0 ≤ weighP l 673 ∧ weighP l 673 ≤ 672 := by unfold weighP; omega
theorem sealP_len (s : List UInt8) : (sealP s).length = s.length + 3 := by simp [sealP]
theorem join_len (sep : List UInt8) (m : Nat) : ∀ xs : List (List UInt8), (∀ x ∈ xs, x.length ≤ m) → (Lib.join xs sep).length ≤ xs.length * (m + sep.length)
  | [], _ => by simp [Lib.join_nil]
  | x :: r, h => by
    rw [Lib.join_length]
    have hl : ∀ ys : List (List UInt8), (∀ y ∈ ys, y.length ≤ m) → Lib.lens ys ≤ ys.length * m := fun ys => by
      induction ys with
      | nil => intro _; simp [Lib.lens]
      | cons y ys ih =>
        intro hy
        have h1 := ih fun z hz => hy z (List.mem_cons_of_mem _ hz)
        have h2 := hy y (List.mem_cons_self ..)
        have e : Lib.lens (y :: ys) = y.length + Lib.lens ys := by simp [Lib.lens]
        rw [e, List.length_cons, Nat.succ_mul]; omega
    have h1 := hl (x :: r) h
    have h2 : sep.length * r.length ≤ (x :: r).length * sep.length := by rw [Nat.mul_comm]; exact Nat.mul_le_mul_right _ (by simp)
    rw [Nat.mul_add]; omega
theorem itoa_len {n : Int} (h : -1000000000 ≤ n ∧ n ≤ 1000000000) : (Lib.itoa n).length ≤ 21 := Lib.itoa_length_le n (by omega) (by omega)
theorem SlStr.own {xs : List (List UInt8)} {w : World} {b : Nat} {t : TypeId} (h : Blk w b t (xs.flatMap encStr)) : Sl encStr 1 w (some ⟨b, 0, none⟩) b 0 xs := by
  refine ⟨fun _ => rfl, fun _ => h.lt, fun i hi => ?_⟩
  intro j v hv
  have hj : j = 0 := by
    have := (List.getElem?_eq_some_iff.1 hv).1
    simp [encStr] at this; exact this
  subst hj
  have hv : v = .string (strB (nth xs i)) := by simpa [encStr] using hv.symm
  subst hv
  refine h.get ?_
  rw [Nat.zero_add, Nat.mul_one, Nat.add_zero]
  have e : xs.flatMap encStr = xs.map (fun x => Value.string (strB x)) := by
    clear h hv hi
    induction xs with
    | nil => rfl
    | cons x xs ih => rw [List.flatMap_cons, List.map_cons, ih]; rfl
  rw [e, List.getElem?_map, List.getElem?_eq_getElem hi, nth_eq hi]; rfl
theorem sealsP_len {x : Bil} (h : okBill x = true) : (sealsP x.s).length ≤ 10 ∧ ∀ y ∈ sealsP x.s, y.length ≤ 21 := by
  obtain ⟨h1, h2⟩ := okBill_iff h
  have h3 := sealG_mem (by decide) h1
  unfold sealsP
  split
  · exact ⟨by simp, fun y hy => by rw [List.mem_singleton.1 hy]; decide⟩
  · refine ⟨by rw [List.length_map]; omega, fun y hy => ?_⟩
    obtain ⟨n, hn, rfl⟩ := List.mem_map.1 hy
    have := h3 n hn
    exact itoa_len (by omega)
set_option maxHeartbeats 4000000 in
theorem isBill_c (x : Bil) (w0 : World) (hs : Sl encI 1 w0 x.ao x.g x.ob x.s) (hsl : x.s.length ≤ 1000000) :
    CallsV Tryz.prog 112 [.agg #[.int .i64 x.n, .int .i64 x.c, .int .i64 x.t, .int .i64 x.f, .int .i64 x.o, .slice x.ao x.s.length x.cp]] w0 (fun v w' => v = .bool (okBill x) ∧ Ext w0 w') := by
 refine f_n func112 ?_
 refine go ?_
 refine x_b fun bk2 w3 ebk2 sbk2 B4 u5 => ?_
 refine go ?_
 refine x_l2 (fun _ => False) [1, 7, 8] (fun (i : Nat) (m : Int) => [(3, .int .i64 m), (9, .int .i64 (i : Int))]) (fun i m w => (i ≤ x.s.length) ∧ (sealG m (x.s.drop i) = sealG 0 x.s) ∧ (0 ≤ m ∧ m ≤ 99999)) (fun i m => x.s.length - i) 0 0 ⟨(Nat.zero_le _), rfl, (by decide)⟩ ?_
 rintro i m w11 ⟨hi, hc, hm⟩ u12 zu12 K10 hK10
 refine go ?_
 refine q_p (fun g10 => ?_) fun g10 => ?_
 ·
  refine go ?_
  refine g_i i (hs.keep (((Upd.refl (fun _ => False) w0).nx u5).nx u12) (fun _ h => h)) (fun _ => ?_)
  refine go ?_
  refine x_l fun bk21 w22 ebk21 sbk21 B23 u24 => ?_
  refine x_c func62 rfl rfl (within1_v (m + 1) 99999 (nth x.s i) bk21 _ _ B23) ?_
  rintro _ w27 ⟨rfl, u28⟩ zu28
  refine go ?_
  refine q_p (fun g18 => ?_) fun g18 => ?_
  ·
   have g19 : ¬ (m + 1 ≤ (nth x.s i) ∧ (nth x.s i) ≤ 99999) := by simpa using g18
   refine go ?_
   refine f_1 results112 ?_
   have hS : sealG 0 x.s = false := by rw [← hc, drop_nth (by omega)]; unfold sealG; rw [if_neg g19]
   exact ⟨by unfold okBill; rw [hS]; rfl, u_d⟩
  have g19 : m + 1 ≤ (nth x.s i) ∧ (nth x.s i) ≤ 99999 := by simpa using g18
  refine go ?_
  exact hK10 (i + 1) (nth x.s i) ⟨(by omega), (by rw [drop_nth (by omega)] at hc; rw [← hc]; conv => rhs; unfold sealG; rw [if_pos g19]), (by omega)⟩
 have hS : sealG 0 x.s = true := by rw [← hc, List.drop_of_length_le (by omega)]; rfl
 refine go ?_
 refine x_l fun bk33 w34 ebk33 sbk33 B35 u36 => ?_
 refine x_c func62 rfl rfl (within1_v 1 9999 x.n bk33 _ _ B35) ?_
 rintro _ w39 ⟨rfl, u40⟩ zu40
 refine go ?_
 refine t_splitp 25 rfl (fun g25 => ?_) (fun g25 => ?_)
 ·
  refine go ?_
  refine x_l fun bk43 w44 ebk43 sbk43 B45 u46 => ?_
  refine x_c func62 rfl rfl (within1_v 0 99 x.c bk43 _ _ B45) ?_
  rintro _ w49 ⟨rfl, u50⟩ zu50
  refine go ?_
  refine t_splitp 31 rfl (fun g31 => ?_) (fun g31 => ?_)
  ·
   refine go ?_
   refine x_l fun bk53 w54 ebk53 sbk53 B55 u56 => ?_
   refine x_c func62 rfl rfl (within1_v 1 100000 x.t bk53 _ _ B55) ?_
   rintro _ w59 ⟨rfl, u60⟩ zu60
   refine go ?_
   refine t_splitp 37 rfl (fun g37 => ?_) (fun g37 => ?_)
   ·
    refine go ?_
    refine x_l fun bk63 w64 ebk63 sbk63 B65 u66 => ?_
    refine x_c func62 rfl rfl (within2_v 0 100000 x.f x.o bk63 _ _ B65) ?_
    rintro _ w69 ⟨rfl, u70⟩ zu70
    refine go ?_
    refine t_splitp 45 rfl (fun g45 => ?_) (fun g45 => ?_)
    ·
     refine go ?_
     refine t_splitp 52 rfl (fun g52 => ?_) (fun g52 => ?_)
     ·
      refine go ?_
      refine f_1 results112 ?_
      exact ⟨congrArg Value.bool (by unfold okBill; rw [hS, Bool.true_and]; first | exact (decide_eq_false (by omega)).symm | exact (decide_eq_true (by omega)).symm | exact decide_eq_decide.2 (by omega)), u_d⟩
     refine go ?_
     refine f_1 results112 ?_
     exact ⟨congrArg Value.bool (by unfold okBill; rw [hS, Bool.true_and]; first | exact (decide_eq_false (by omega)).symm | exact (decide_eq_true (by omega)).symm | exact decide_eq_decide.2 (by omega)), u_d⟩
    refine go ?_
    refine f_1 results112 ?_
    exact ⟨congrArg Value.bool (by unfold okBill; rw [hS, Bool.true_and]; first | exact (decide_eq_false (by omega)).symm | exact (decide_eq_true (by omega)).symm | exact decide_eq_decide.2 (by omega)), u_d⟩
   refine go ?_
   refine f_1 results112 ?_
   exact ⟨congrArg Value.bool (by unfold okBill; rw [hS, Bool.true_and]; first | exact (decide_eq_false (by omega)).symm | exact (decide_eq_true (by omega)).symm | exact decide_eq_decide.2 (by omega)), u_d⟩
  refine go ?_
  refine f_1 results112 ?_
  exact ⟨congrArg Value.bool (by unfold okBill; rw [hS, Bool.true_and]; first | exact (decide_eq_false (by omega)).symm | exact (decide_eq_true (by omega)).symm | exact decide_eq_decide.2 (by omega)), u_d⟩
 refine go ?_
 refine f_1 results112 ?_
 exact ⟨congrArg Value.bool (by unfold okBill; rw [hS, Bool.true_and]; first | exact (decide_eq_false (by omega)).symm | exact (decide_eq_true (by omega)).symm | exact decide_eq_decide.2 (by omega)), u_d⟩

theorem billAfter_c (x y : Bil) (w0 : World) :
    CallsV Tryz.prog 113 [.agg #[.int .i64 x.n, .int .i64 x.c, .int .i64 x.t, .int .i64 x.f, .int .i64 x.o, .slice x.ao x.s.length x.cp], .agg #[.int .i64 y.n, .int .i64 y.c, .int .i64 y.t, .int .i64 y.f, .int .i64 y.o, .slice y.ao y.s.length y.cp]] w0 (fun v w' => v = .bool (decide (x.n < y.n)) ∧ Ext w0 w') := by
 refine f_n func113 ?_
 refine go ?_
 refine x_b fun bk2 w3 ebk2 sbk2 B4 u5 => ?_
 refine x_b fun bk7 w8 ebk7 sbk7 B9 u10 => ?_
 refine go ?_
 refine f_1 results113 ?_
 exact ⟨rfl, u_d⟩

theorem sealed_c (ws : List (List UInt8)) (ao : Option Addr) (b o cap : Nat) (w0 : World) (hs : Sl encStr 1 w0 ao b o ws) (hcap : ws.length ≤ cap) (hwl : ws.length ≤ 1000) (hjl : (Lib.join ws [32]).length ≤ 90000) :
    CallsV Tryz.prog 146 [.slice ao ws.length cap] w0 (fun v w' => v = .string (strB (sealedP ws)) ∧ Ext w0 w') := by
 have hwr := weighP_r (Lib.join ws [32] ++ [32])
 have hsl9 : (Lib.join ws [32] ++ [32]).length = (Lib.join ws [32]).length + 1 := by simp
 refine f_n func146 ?_
 refine go ?_
 refine x_c func147 rfl rfl (join_c ws ([32]) ao b o cap _ hs hcap (by omega) (by omega)) ?_
 rintro _ w4 ⟨rfl, u5⟩ zu5
 refine t_bo (Bo.addS (by simp only [List.length_cons, List.length_nil]; omega)) rfl rfl rfl rfl ?_
 refine go ?_
 refine t_toB underlying9 underlying25 underlying5 rfl rfl rfl (fun bk9 cp10 w11 ebk9 sbk9 B12 u13 => ?_)
 refine x_c func64 rfl rfl (weigh_c ((Lib.join ws ([32])) ++ [32]) (some ⟨bk9, 0, none⟩) bk9 0 cp10 673 _ (B12.sl) (by omega) (by decide)) ?_
 rintro _ w16 ⟨rfl, u17⟩ zu17
 refine go ?_
 refine t_quo rfl rfl rfl rfl (by omega) (by omega) ?_
 refine go ?_
 refine t_conv underlying3 underlying21 rfl rfl rfl (IntWalk.i32_in _ (by omega)) (t_same 15 (v := .int .i32 ((97 + weighP (Lib.join ws [32] ++ [32]) 673 / 26).toNat : Int)) rfl (congrArg (Value.int .i32) (by omega)) (t_ofRune ((97 + weighP (Lib.join ws [32] ++ [32]) 673 / 26).toNat) (by kernel_rfl) underlying9 rfl rfl rfl rfl (by omega) (t_bo (Bo.addS (by simp only [List.length_append, List.length_cons, List.length_nil]; omega)) rfl rfl rfl rfl ?_)))
 refine go ?_
 refine t_rem rfl rfl rfl rfl (by omega) (by omega) ?_
 refine go ?_
 refine t_conv underlying3 underlying21 rfl rfl rfl (IntWalk.i32_in _ (by omega)) (t_same 21 (v := .int .i32 ((97 + weighP (Lib.join ws [32] ++ [32]) 673 % 26).toNat : Int)) rfl (congrArg (Value.int .i32) (by omega)) (t_ofRune ((97 + weighP (Lib.join ws [32] ++ [32]) 673 % 26).toNat) (by kernel_rfl) underlying9 rfl rfl rfl rfl (by omega) (t_bo (Bo.addS (by simp only [List.length_append, List.length_cons, List.length_nil]; omega)) rfl rfl rfl rfl (t_bo (Bo.addS (by simp only [List.length_append, List.length_cons, List.length_nil]; omega)) rfl rfl rfl rfl ?_))))
 refine go ?_
 refine f_1 results146 ?_
 exact ⟨rfl, u_d⟩

end Go.Proofs.YtjdcpnaocjddoaaGreatDoor
