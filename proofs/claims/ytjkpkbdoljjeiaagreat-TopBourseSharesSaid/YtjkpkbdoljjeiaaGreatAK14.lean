/-
  Part 14 of the proof: contracts and plain laws. Conditions: none.
-/
import Derived.Test.YtjkpkbdoljjeiaaGreatAK13
namespace Go.Proofs.YtjkpkbdoljjeiaaGreat
open Go Go.RowKit Go.Proofs.Tryz

def bdIt (B : Int) (x : It) : Prop := (0 ≤ x.v ∧ x.v ≤ B) ∧ (0 ≤ x.d ∧ x.d ≤ B) ∧ (0 ≤ x.s ∧ x.s ≤ B) ∧ (0 ≤ x.e ∧ x.e ≤ B)
theorem gaS_bd {m : Nat} {l : List Nt} (h : ∀ x ∈ l, 1 ≤ x.a ∧ x.a ≤ 100000000000) : ∀ {k : Nat}, k ≤ l.length → ∀ j, j < m → bdIt (100000000000 * (k : Int)) (nth (gaS m l k) j)
  | 0, _, j, hj => by
    unfold gaS bdIt
    rw [nth_eq (by rw [List.length_replicate]; exact hj), List.getElem_replicate]
    dsimp only
    omega
  | k + 1, hk, j, hj => by
    have ih := gaS_bd h (k := k) (by omega) j hj
    have hx := h _ (nth_mem (xs := l) (i := k) (by omega))
    rw [gaS, nth_setI (by rw [gaS_len]; exact hj)]
    unfold bdIt at *
    by_cases q : (nth l k).i.toNat = j
    · rw [if_pos q, q]
      unfold itAdd
      split
      · dsimp only; omega
      · split
        · dsimp only; omega
        · split <;> (dsimp only; omega)
    · rw [if_neg q]; omega
theorem it_map {its : List It} {V : List Int} {f : It → Int} (hl : its.length = V.length) (h : ∀ j, j < V.length → f (nth its j) = nth V j) : its.map f = V := by
  refine List.ext_getElem (by rw [List.length_map, hl]) fun j h1 h2 => ?_
  rw [List.getElem_map, ← nth_eq (by rw [hl]; exact h2), ← nth_eq h2]
  exact h j h2
def encAc (x : Acn) : List Value := [.int .i64 x.v, .int .i64 x.g, .int .i64 x.d, .int .i64 x.b]
/-- Notes of values and of what was paid. -/
def okNt (m : Nat) (x : Nt) : Prop := (x.k = 1 ∨ x.k = 4) ∧ (0 ≤ x.i ∧ x.i < (m : Int)) ∧ (1 ≤ x.a ∧ x.a ≤ 100000000000)
set_option maxHeartbeats 4000000 in
theorem gather_c (m : Nat) (l : List Nt) (al : Option Addr) (bl ol cl : Nat) (w0 : World) (hs : Sl encNt 3 w0 al bl ol l) (hl : l.length ≤ 300) (hm : 1 ≤ m ∧ m ≤ 40) (hok : ∀ x ∈ l, okNt m x) :
    CallsV Tryz.prog 25 [.int .i64 (m : Int), .slice al l.length cl] w0 (fun v w' => (∃ g, v = .tuple #[.slice (some ⟨g, 0, none⟩) m m, .int .i64 0, .int .i64 0] ∧ w0.heap.size ≤ g ∧ Sl encIt 5 w' (some ⟨g, 0, none⟩) g 0 (gaS m l l.length)) ∧ Ext w0 w') := by
 refine f_n func25 ?_
 refine go ?_
 refine t_makeN (enc := encIt) (k := 5) (z := .agg #[.int .i64 0, .int .i64 0, .int .i64 0, .int .i64 0, .int .i64 0]) (bytes := 40) (n := m) (⟨0, 0, 0, 0, 0⟩ : It) underlying85 (by kernel_rfl) rfl (by decide) (fun _ => rfl) (by decide) rfl rfl rfl rfl rfl (by omega) (fun bk3 w4 ebk3 sbk3 A5 u6 => ?_)
 have lt_bk3 := A5.lt
 refine go ?_
 refine x_l1 (fun i => i = bk3 ∨ w4.heap.size ≤ i) [0, 11, 12] (fun (k : Nat) => [(4, .slice (some ⟨bk3, 0, none⟩) m m), (13, .int .i64 (k : Int))]) (fun k w => (k ≤ l.length) ∧ (Acc encIt 5 90 bk3 w (some ⟨bk3, 0, none⟩) bk3 m (gaS m l k))) (fun k => l.length - k) 0 ⟨(Nat.zero_le _), A5⟩ ?_
 rintro k w11 ⟨hk, hga⟩ u12 zu12 K10 hK10
 have lt_bk3 := hga.lt
 have hgl := gaS_len (m := m) (l := l) k
 refine go ?_
 refine q_p (fun g14 => ?_) fun g14 => ?_
 ·
  have hok9 := hok _ (nth_mem (xs := l) (i := k) (by omega))
  unfold okNt at hok9
  have hp9 := hs.lt (by omega)
  have hbd9 := gaS_bd (m := m) (fun x hx => by have := hok x hx; unfold okNt at this; exact this.2.2) (k := k) (by omega) (nth l k).i.toNat (by omega)
  unfold bdIt at hbd9
  refine go ?_
  refine g_i k (hs.keep (((Upd.refl (fun _ => False) w0).nx u6).next u12 (fun i hi (h : i = bk3 ∨ w4.heap.size ≤ i) => show False by first | omega | assumption)) (fun _ h => h)) (fun _ => ?_)
  refine go ?_
  rcases hok9.1 with hk1 | hk4
  ·
   refine t_samehd (v := .agg #[.int .i64 1, .int .i64 ((nth l k).i), .int .i64 ((nth l k).a)]) (by rw [hk1]) ?_
   refine x_n fun bk19 w20 ebk19 sbk19 B21 u22 => ?_
   refine go ?_
   refine x_s fun w24 sw24 B26 u25 => ?_
   iterate 9 refine st1 ?_
   refine t_same 21 (v := .bool false) rfl (congrArg Value.bool (decide_eq_false (by omega))) ?_
   iterate 4 refine st1 ?_
   refine t_same 25 (v := .bool false) rfl (congrArg Value.bool (decide_eq_false (by omega))) ?_
   refine go ?_
   refine x_l fun bk31 w32 ebk31 sbk31 B33 u34 => ?_
   refine x_c func22 rfl rfl (awithin1_v 0 ((m : Int) - 1) ((nth l k).i) _ _ _ B33) ?_
   rintro _ w37 ⟨rfl, u38⟩ zu38
   refine st1 ?_
   refine t_same 35 (v := .bool false) rfl (congrArg Value.bool (decide_eq_false (fun h => h (by omega)))) ?_
   refine go ?_
   refine x_l fun bk42 w43 ebk42 sbk42 B44 u45 => ?_
   refine x_c func22 rfl rfl (awithin1_v 1 100000000000 ((nth l k).a) _ _ _ B44) ?_
   rintro _ w48 ⟨rfl, u49⟩ zu49
   refine st1 ?_
   refine t_same 42 (v := .bool false) rfl (congrArg Value.bool (decide_eq_false (fun h => h (by omega)))) ?_
   refine go ?_
   refine c_drawnM follows (fun i => i = bk3) (.look 0 (.look 1 (.look 2 (.look 3 (.look 4 (.look 5 (.look 6 (.look 8 (.look 9 (.act 7 (.look 10 (.act 11 (.act 12 (.act 13 .done .stop) .stop) .stop)) (.act 11 (.act 7 (.look 10 (.act 12 (.act 13 .done .stop) .stop)) .stop) .stop))))))))))) (by kernel_rfl) fun w52 u53 => ?_
   have zu53 := u53.size
   refine go ?_
   have D55 := (((((((hga.keep u22 (fun _ h => h)).keep u25 (fun hb => show ¬ (bk3 = bk19) by first | omega | assumption)).keep u34 (fun _ h => h)).keep u38 (fun _ h => h)).keep u45 (fun _ h => h)).keep u49 (fun _ h => h)).keep u53 (fun _ h => h))
   refine y_i ((nth l k).i.toNat) (D55.sl (fun _ => rfl)) (fun _ => ?_) (hj := (by omega))
   refine y_indexArr (j := 1) (0 + (nth l k).i.toNat * 5 + 1) underlying90 sizeOf3 rfl rfl rfl rfl rfl (by decide) rfl ?_
   refine go ?_
   refine s_or ?_ ?_
   ·
    refine go ?_
    refine g_i ((nth l k).i.toNat) (D55.sl (fun _ => rfl)) (fun _ => ?_) (hj := (by omega))
    refine go ?_
    refine t_indexArr (j := 1) (0 + (nth l k).i.toNat * 5 + 1) underlying90 sizeOf3 rfl rfl rfl rfl rfl (by decide) rfl ?_
    refine go ?_
    refine t_storeA (vs := [.int .i64 ((nth (gaS m l k) ((nth l k).i.toNat)).v + ((nth l k).a))]) (j := (nth l k).i.toNat) (o' := 1) (k := 5) (⟨(nth (gaS m l k) ((nth l k).i.toNat)).z, ((nth (gaS m l k) ((nth l k).i.toNat)).v + ((nth l k).a)), (nth (gaS m l k) ((nth l k).i.toNat)).d, (nth (gaS m l k) ((nth l k).i.toNat)).s, (nth (gaS m l k) ((nth l k).i.toNat)).e⟩ : It) (fun _ => rfl) sizeOf3 rfl rfl (by omega) rfl D55 (by first | omega | (simp only [List.length_set, eRuns_len]; omega)) rfl rfl (by decide) (by simp [Value.oneCell']) rfl (fun w58 R60 u59 => ?_)
    have zu59 := u59.size
    refine go ?_
    have hst9 : (gaS m l (k + 1)) = ((gaS m l k).set (nth l k).i.toNat (⟨(nth (gaS m l k) ((nth l k).i.toNat)).z, ((nth (gaS m l k) ((nth l k).i.toNat)).v + ((nth l k).a)), (nth (gaS m l k) ((nth l k).i.toNat)).d, (nth (gaS m l k) ((nth l k).i.toNat)).s, (nth (gaS m l k) ((nth l k).i.toNat)).e⟩ : It)) := by rw [gaS]; unfold itAdd; rw [if_pos hk1]
    exact hK10 (k + 1) ⟨(by omega), (by rw [hst9]; exact R60)⟩ (hu := ((((((((u12.nx u22).next u25 (fun i hi (h : i = bk19) => show i = bk3 ∨ w4.heap.size ≤ i by first | omega | assumption)).nx u34).nx u38).nx u45).nx u49).nx u53).next u59 (fun i hi (h : i = bk3) => show i = bk3 ∨ w4.heap.size ≤ i by first | omega | assumption)))
   refine go ?_
   refine g_i ((nth l k).i.toNat) (D55.sl (fun _ => rfl)) (fun _ => ?_) (hj := (by omega))
   refine go ?_
   refine t_indexArr (j := 1) (0 + (nth l k).i.toNat * 5 + 1) underlying90 sizeOf3 rfl rfl rfl rfl rfl (by decide) rfl ?_
   refine go ?_
   refine t_storeA (vs := [.int .i64 ((nth (gaS m l k) ((nth l k).i.toNat)).v + ((nth l k).a))]) (j := (nth l k).i.toNat) (o' := 1) (k := 5) (⟨(nth (gaS m l k) ((nth l k).i.toNat)).z, ((nth (gaS m l k) ((nth l k).i.toNat)).v + ((nth l k).a)), (nth (gaS m l k) ((nth l k).i.toNat)).d, (nth (gaS m l k) ((nth l k).i.toNat)).s, (nth (gaS m l k) ((nth l k).i.toNat)).e⟩ : It) (fun _ => rfl) sizeOf3 rfl rfl (by omega) rfl D55 (by first | omega | (simp only [List.length_set, eRuns_len]; omega)) rfl rfl (by decide) (by simp [Value.oneCell']) rfl (fun w63 R65 u64 => ?_)
   have zu64 := u64.size
   refine go ?_
   have hst9 : (gaS m l (k + 1)) = ((gaS m l k).set (nth l k).i.toNat (⟨(nth (gaS m l k) ((nth l k).i.toNat)).z, ((nth (gaS m l k) ((nth l k).i.toNat)).v + ((nth l k).a)), (nth (gaS m l k) ((nth l k).i.toNat)).d, (nth (gaS m l k) ((nth l k).i.toNat)).s, (nth (gaS m l k) ((nth l k).i.toNat)).e⟩ : It)) := by rw [gaS]; unfold itAdd; rw [if_pos hk1]
   exact hK10 (k + 1) ⟨(by omega), (by rw [hst9]; exact R65)⟩ (hu := ((((((((u12.nx u22).next u25 (fun i hi (h : i = bk19) => show i = bk3 ∨ w4.heap.size ≤ i by first | omega | assumption)).nx u34).nx u38).nx u45).nx u49).nx u53).next u64 (fun i hi (h : i = bk3) => show i = bk3 ∨ w4.heap.size ≤ i by first | omega | assumption)))
  refine t_samehd (v := .agg #[.int .i64 4, .int .i64 ((nth l k).i), .int .i64 ((nth l k).a)]) (by rw [hk4]) ?_
  refine x_n fun bk67 w68 ebk67 sbk67 B69 u70 => ?_
  refine go ?_
  refine x_s fun w72 sw72 B74 u73 => ?_
  iterate 9 refine st1 ?_
  refine t_same 21 (v := .bool false) rfl (congrArg Value.bool (decide_eq_false (by omega))) ?_
  iterate 4 refine st1 ?_
  refine t_same 25 (v := .bool false) rfl (congrArg Value.bool (decide_eq_false (by omega))) ?_
  refine go ?_
  refine x_l fun bk79 w80 ebk79 sbk79 B81 u82 => ?_
  refine x_c func22 rfl rfl (awithin1_v 0 ((m : Int) - 1) ((nth l k).i) _ _ _ B81) ?_
  rintro _ w85 ⟨rfl, u86⟩ zu86
  refine st1 ?_
  refine t_same 35 (v := .bool false) rfl (congrArg Value.bool (decide_eq_false (fun h => h (by omega)))) ?_
  refine go ?_
  refine x_l fun bk90 w91 ebk90 sbk90 B92 u93 => ?_
  refine x_c func22 rfl rfl (awithin1_v 1 100000000000 ((nth l k).a) _ _ _ B92) ?_
  rintro _ w96 ⟨rfl, u97⟩ zu97
  refine st1 ?_
  refine t_same 42 (v := .bool false) rfl (congrArg Value.bool (decide_eq_false (fun h => h (by omega)))) ?_
  refine go ?_
  refine c_drawnM follows (fun i => i = bk3) (.look 0 (.look 1 (.look 2 (.look 3 (.look 4 (.look 5 (.look 6 (.look 8 (.look 9 (.act 7 (.look 10 (.act 11 (.act 12 (.act 13 .done .stop) .stop) .stop)) (.act 11 (.act 7 (.look 10 (.act 12 (.act 13 .done .stop) .stop)) .stop) .stop))))))))))) (by kernel_rfl) fun w100 u101 => ?_
  have zu101 := u101.size
  refine go ?_
  have D103 := (((((((hga.keep u70 (fun _ h => h)).keep u73 (fun hb => show ¬ (bk3 = bk67) by first | omega | assumption)).keep u82 (fun _ h => h)).keep u86 (fun _ h => h)).keep u93 (fun _ h => h)).keep u97 (fun _ h => h)).keep u101 (fun _ h => h))
  refine y_i ((nth l k).i.toNat) (D103.sl (fun _ => rfl)) (fun _ => ?_) (hj := (by omega))
  refine y_indexArr (j := 4) (0 + (nth l k).i.toNat * 5 + 4) underlying90 sizeOf3 rfl rfl rfl rfl rfl (by decide) rfl ?_
  refine go ?_
  refine s_or ?_ ?_
  ·
   refine go ?_
   refine g_i ((nth l k).i.toNat) (D103.sl (fun _ => rfl)) (fun _ => ?_) (hj := (by omega))
   refine go ?_
   refine t_indexArr (j := 4) (0 + (nth l k).i.toNat * 5 + 4) underlying90 sizeOf3 rfl rfl rfl rfl rfl (by decide) rfl ?_
   refine go ?_
   refine t_storeA (vs := [.int .i64 ((nth (gaS m l k) ((nth l k).i.toNat)).e + ((nth l k).a))]) (j := (nth l k).i.toNat) (o' := 4) (k := 5) (⟨(nth (gaS m l k) ((nth l k).i.toNat)).z, (nth (gaS m l k) ((nth l k).i.toNat)).v, (nth (gaS m l k) ((nth l k).i.toNat)).d, (nth (gaS m l k) ((nth l k).i.toNat)).s, ((nth (gaS m l k) ((nth l k).i.toNat)).e + ((nth l k).a))⟩ : It) (fun _ => rfl) sizeOf3 rfl rfl (by omega) rfl D103 (by first | omega | (simp only [List.length_set, eRuns_len]; omega)) rfl rfl (by decide) (by simp [Value.oneCell']) rfl (fun w106 R108 u107 => ?_)
   have zu107 := u107.size
   refine go ?_
   have hst9 : (gaS m l (k + 1)) = ((gaS m l k).set (nth l k).i.toNat (⟨(nth (gaS m l k) ((nth l k).i.toNat)).z, (nth (gaS m l k) ((nth l k).i.toNat)).v, (nth (gaS m l k) ((nth l k).i.toNat)).d, (nth (gaS m l k) ((nth l k).i.toNat)).s, ((nth (gaS m l k) ((nth l k).i.toNat)).e + ((nth l k).a))⟩ : It)) := by rw [gaS]; unfold itAdd; rw [if_neg (by omega), if_neg (by omega), if_neg (by omega)]
   exact hK10 (k + 1) ⟨(by omega), (by rw [hst9]; exact R108)⟩ (hu := ((((((((u12.nx u70).next u73 (fun i hi (h : i = bk67) => show i = bk3 ∨ w4.heap.size ≤ i by first | omega | assumption)).nx u82).nx u86).nx u93).nx u97).nx u101).next u107 (fun i hi (h : i = bk3) => show i = bk3 ∨ w4.heap.size ≤ i by first | omega | assumption)))
  refine go ?_
  refine g_i ((nth l k).i.toNat) (D103.sl (fun _ => rfl)) (fun _ => ?_) (hj := (by omega))
  refine go ?_
  refine t_indexArr (j := 4) (0 + (nth l k).i.toNat * 5 + 4) underlying90 sizeOf3 rfl rfl rfl rfl rfl (by decide) rfl ?_
  refine go ?_
  refine t_storeA (vs := [.int .i64 ((nth (gaS m l k) ((nth l k).i.toNat)).e + ((nth l k).a))]) (j := (nth l k).i.toNat) (o' := 4) (k := 5) (⟨(nth (gaS m l k) ((nth l k).i.toNat)).z, (nth (gaS m l k) ((nth l k).i.toNat)).v, (nth (gaS m l k) ((nth l k).i.toNat)).d, (nth (gaS m l k) ((nth l k).i.toNat)).s, ((nth (gaS m l k) ((nth l k).i.toNat)).e + ((nth l k).a))⟩ : It) (fun _ => rfl) sizeOf3 rfl rfl (by omega) rfl D103 (by first | omega | (simp only [List.length_set, eRuns_len]; omega)) rfl rfl (by decide) (by simp [Value.oneCell']) rfl (fun w111 R113 u112 => ?_)
  have zu112 := u112.size
  refine go ?_
  have hst9 : (gaS m l (k + 1)) = ((gaS m l k).set (nth l k).i.toNat (⟨(nth (gaS m l k) ((nth l k).i.toNat)).z, (nth (gaS m l k) ((nth l k).i.toNat)).v, (nth (gaS m l k) ((nth l k).i.toNat)).d, (nth (gaS m l k) ((nth l k).i.toNat)).s, ((nth (gaS m l k) ((nth l k).i.toNat)).e + ((nth l k).a))⟩ : It)) := by rw [gaS]; unfold itAdd; rw [if_neg (by omega), if_neg (by omega), if_neg (by omega)]
  exact hK10 (k + 1) ⟨(by omega), (by rw [hst9]; exact R113)⟩ (hu := ((((((((u12.nx u70).next u73 (fun i hi (h : i = bk67) => show i = bk3 ∨ w4.heap.size ≤ i by first | omega | assumption)).nx u82).nx u86).nx u93).nx u97).nx u101).next u112 (fun i hi (h : i = bk3) => show i = bk3 ∨ w4.heap.size ≤ i by first | omega | assumption)))
 refine go ?_
 refine f_ret3 (v1 := .slice (some ⟨bk3, 0, none⟩) m m) (v2 := .int .i64 0) (v3 := .int .i64 0) results25 rfl rfl rfl ?_
 obtain rfl : k = l.length := by omega
 exact ⟨⟨bk3, rfl, by omega, hga.sl (fun _ => rfl)⟩, u_d⟩

set_option maxHeartbeats 4000000 in
theorem Adjust_c (m : Nat) (l : List Nt) (al : Option Addr) (bl ol cl : Nat) (V G : List Int) (w0 : World) (hs : Sl encNt 3 w0 al bl ol l) (hnl : l.length ≤ 300) (hok : ∀ x ∈ l, okNt m x) (hmv : m = V.length) (hav : AvOk V G) (hits : ∀ j, j < m → nth (gaS m l l.length) j = ⟨0, nth V j, 0, 0, nth G j⟩) (hV32 : (preS V V.length) ≤ 4294967295) :
    CallsV Tryz.prog 8 [.int .i64 (m : Int), .int .i64 0, .slice al l.length cl] w0 (fun v w' => (∃ ao g cp, v = .tuple #[.slice ao (List.length (acL V G V.length)) cp, .int .i64 (preS G G.length), .int .i64 0, .int .i64 0] ∧ Sl encAc 4 w' ao g 0 (acL V G V.length)) ∧ Ext w0 w') := by
 have hm : 1 ≤ m ∧ m ≤ 40 := by rw [hmv]; exact hav.m
 have hlen := hav.len
 have hml := hav.m
 have hBV : ∀ x ∈ V, 0 ≤ x ∧ x ≤ 100000000000000 := mem_of_nth (p := fun x => 0 ≤ x ∧ x ≤ 100000000000000) fun j hj => by have := hav.v j hj; omega
 have hBG : ∀ x ∈ G, 0 ≤ x ∧ x ≤ 100000000000000 := mem_of_nth (p := fun x => 0 ≤ x ∧ x ≤ 100000000000000) fun j hj => by have := hav.g j hj; omega
 have hits9 : ∀ x ∈ (gaS m l l.length), okIt x := fun x hx => by
   obtain ⟨j, hj, rfl⟩ := List.getElem_of_mem hx
   have hj2 : j < m := by rw [← gaS_len (m := m) (l := l) l.length]; exact hj
   rw [← nth_eq hj, hits j hj2]
   have := hav.v j (by omega)
   have := hav.g j (by omega)
   unfold okIt
   dsimp only
   omega
 have hpv := hav.pos
 have hple := hav.le
 have hpg := (preS_bd hav.g (Nat.le_refl _)).1
 refine f_n func8 ?_
 refine go ?_
 refine x_b fun bk2 w3 ebk2 sbk2 B4 u5 => ?_
 refine go ?_
 refine x_l fun bk9 w10 ebk9 sbk9 B11 u12 => ?_
 refine x_c func22 rfl rfl (awithin1_v 1 40 (m : Int) _ _ _ B11) ?_
 rintro _ w15 ⟨rfl, u16⟩ zu16
 refine st1 ?_
 refine t_same 21 (v := .bool false) rfl (congrArg Value.bool (decide_eq_false (fun h => h (by omega)))) ?_
 refine go ?_
 refine x_l fun bk19 w20 ebk19 sbk19 B21 u22 => ?_
 refine x_c func22 rfl rfl (awithin1_v 0 10000 0 _ _ _ B21) ?_
 rintro _ w25 ⟨rfl, u26⟩ zu26
 refine st1 ?_
 refine t_same 26 (v := .bool false) rfl (congrArg Value.bool (decide_eq_false (fun h => h (by omega)))) ?_
 iterate 10 refine st1 ?_
 refine t_same 31 (v := .bool false) rfl (congrArg Value.bool (decide_eq_false (by omega))) ?_
 refine go ?_
 refine x_c func25 rfl rfl (gather_c m l al bl ol cl _ (hs.keep ((((((Upd.refl (fun _ => False) w0).nx u5).nx u12).nx u16).nx u22).nx u26) (fun _ h => h)) hnl hm hok) ?_
 rintro _ w32 ⟨⟨gG, rfl, hgG, hG⟩, u33⟩ zu33
 have hgl := gaS_len (m := m) (l := l) l.length
 have hlG := hG.lt (by omega)
 refine go ?_
 refine x_n fun bk36 w37 ebk36 sbk36 B38 u39 => ?_
 refine x_s fun w41 sw41 B43 u42 => ?_
 refine go ?_
 refine t_mkfunc (vs := []) (us := [.pointer (some ⟨bk36, 0, none⟩)]) rfl rfl rfl rfl ?_
 refine go ?_
 have D50 := ((hG.keep u39 (fun _ h => h)).keep u42 (fun _ => show ¬ (gG = bk36) by omega))
 refine x_c func26 rfl rfl (of_saved_c (gaS m l l.length) (some ⟨gG, 0, none⟩) gG 0 m bk36 V _ (by rw [hgl]; exact B43) D50 (by omega) hits9 (it_map (by omega) fun j hj => by rw [hits j (by omega)]; dsimp only; omega)) ?_
 rintro _ w52 ⟨⟨aO49, gO49, cO49, rfl, hO49⟩, u53⟩ zu53
 have hlO49 := hO49.lt (by omega)
 refine go ?_
 have D57 := (D50.keep u53 (fun _ h => h))
 have B58 := (B43.kx u53)
 refine x_c func26 rfl rfl (of_worth_c (gaS m l l.length) (some ⟨gG, 0, none⟩) gG 0 m bk36 V _ (by rw [hgl]; exact B58) D57 (by omega) hits9 (it_map (by omega) fun j hj => by rw [hits j (by omega)]; dsimp only; omega)) ?_
 rintro _ w60 ⟨⟨aO56, gO56, cO56, rfl, hO56⟩, u61⟩ zu61
 have hlO56 := hO56.lt (by omega)
 refine go ?_
 refine t_mkfunc (vs := []) (us := [.pointer (some ⟨bk2, 0, none⟩)]) rfl rfl rfl rfl ?_
 have D66 := (D57.keep u61 (fun _ h => h))
 have B67 := (B58.kx u61)
 have B68 := (((((((((B4.kx u12).kx u16).kx u22).kx u26).kx u33).kx u39).keep u42 (by omega)).kx u53).kx u61)
 refine x_c func26 rfl rfl (of_good_c (gaS m l l.length) (some ⟨gG, 0, none⟩) gG 0 m bk36 G bk2 _ (by rw [hgl]; exact B67) D66 (by omega) hits9 (it_map (by omega) fun j hj => by rw [hits j (by omega)]; dsimp only; omega) B68) ?_
 rintro _ w70 ⟨⟨aO65, gO65, cO65, rfl, hO65⟩, u71⟩ zu71
 have hlO65 := hO65.lt (by omega)
 refine go ?_
 have D76 := ((hO49.keep u61 (fun _ h => h)).keep u71 (fun _ h => h))
 refine x_c func31 rfl rfl (min_c V aO49 gO49 0 cO49 _ D76 (by omega) (by omega) (fun x hx => (hBV x hx).1)) ?_
 rintro _ w78 ⟨⟨mn, rfl, hmn⟩, u79⟩ zu79
 refine st1 ?_
 refine t_same 53 (v := .bool false) rfl (congrArg Value.bool (decide_eq_false (by omega))) ?_
 refine go ?_
 have D82 := (D76.keep u79 (fun _ h => h))
 refine x_c func23 rfl rfl (asum_c V aO49 gO49 0 cO49 _ D82 (by omega) hBV) ?_
 rintro _ w84 ⟨rfl, u85⟩ zu85
 refine st1 ?_
 refine t_same 57 (v := .bool false) rfl (congrArg Value.bool (decide_eq_false (by omega))) ?_
 refine go ?_
 have D90 := ((hO65.keep u79 (fun _ h => h)).keep u85 (fun _ h => h))
 refine x_c func23 rfl rfl (asum_c G aO65 gO65 0 cO65 _ D90 (by omega) hBG) ?_
 rintro _ w92 ⟨rfl, u93⟩ zu93
 refine go ?_
 have D97 := ((((hO56.keep u71 (fun _ h => h)).keep u79 (fun _ h => h)).keep u85 (fun _ h => h)).keep u93 (fun _ h => h))
 refine x_c func23 rfl rfl (asum_c V aO56 gO56 0 cO56 _ D97 (by omega) hBV) ?_
 rintro _ w99 ⟨rfl, u100⟩ zu100
 refine st1 ?_
 refine t_same 64 (v := .bool false) rfl (congrArg Value.bool (decide_eq_false (by omega))) ?_
 refine go ?_
 have D105 := (D97.keep u100 (fun _ h => h))
 refine x_c func24 rfl rfl (split_c (preS G G.length) V aO56 gO56 0 cO56 _ D105 (by omega) (fun x hx => (hBV x hx).1) (by omega) hav.pos (by omega)) ?_
 rintro _ w107 ⟨⟨aS, gS, cS, rfl, hS, hGS⟩, u108⟩ zu108
 have hsl9 : (spA (preS G G.length) (preS V V.length) V V.length).length = V.length := spA_len _
 have hdu := hav.due
 have hlS := hS.lt (by show 0 < (duL V G).length; omega)
 refine go ?_
 refine x_l4 (fun i => w107.heap.size ≤ i) [7, 13, 14, 67, 68] (fun (k : Nat) (ao : Option Addr) (gq : Nat) (cq : Nat) => [(6, .slice ao ((acL V G k).length) cq), (69, .int .i64 (k : Int))]) (fun k ao gq cq w => (k ≤ V.length) ∧ (Acc encAc 4 45 w107.heap.size w ao gq cq (acL V G k))) (fun k ao gq cq => V.length - k) 0 none 0 0 ⟨(Nat.zero_le _), (Acc.nil _ _ _ _ _ (by omega) (Nat.le_refl _))⟩ ?_
 rintro k ao gq cq w112 ⟨hk, hac⟩ u113 zu113 K111 hK111
 have lt_gq := hac.lt
 have hol := acL_len (V := V) (G := G) k
 refine go ?_
 refine q_p (fun g70 => ?_) fun g70 => ?_
 ·
  have hv9 := hav.v k (by omega)
  have hg9 := hav.g k (by omega)
  have hd9 := hdu.2.1 k (by omega)
  have hd8 : 0 ≤ nth (spA (preS G G.length) (preS V V.length) V V.length) k ∧ nth (spA (preS G G.length) (preS V V.length) V V.length) k ≤ nth V k := hd9
  refine go ?_
  have D119 := (hS.keep u113 (fun _ => show ¬ (w107.heap.size ≤ gS) by omega))
  refine g_i k D119 (fun _ => ?_)
  refine go ?_
  refine c_drawnM follows (fun i => (i = gq ∧ w107.heap.size ≤ i)) (OTl [0, 2, 4, 6, 8, 10, 12, 14, 16, 18, 20, 22, 24, 26, 28, 30, 32, 35, 37, 38]) (by kernel_rfl) fun w121 u122 => ?_
  have zu122 := u122.size
  refine go ?_
  have D124 := (((D105.keep u108 (fun _ h => h)).keep u113 (fun _ => show ¬ (w107.heap.size ≤ gO56) by omega)).keep u122 (fun _ h => h))
  refine y_i k D124 (fun _ => ?_)
  refine go ?_
  have D126 := (((((D90.keep u93 (fun _ h => h)).keep u100 (fun _ h => h)).keep u108 (fun _ h => h)).keep u113 (fun _ => show ¬ (w107.heap.size ≤ gO65) by omega)).keep u122 (fun _ h => h))
  refine y_i k D126 (fun _ => ?_)
  refine go ?_
  refine y_i k D126 (fun _ => ?_)
  refine go ?_
  refine x_l fun bk129 w130 ebk129 sbk129 B131 u132 => ?_
  refine go ?_
  have D134 := ((hac.keep u122 (fun _ h => h)).keep u132 (fun _ h => h))
  refine t_append (z := .agg #[.int .i64 0, .int .i64 0, .int .i64 0, .int .i64 0]) (bytes := 32) (k := 4) (base := w107.heap.size) (⟨nth V k, nth G k, nth (duL V G) k, nth (duL V G) k - nth G k⟩ : Acn) underlying41 (by kernel_rfl) rfl (by decide) (fun _ => rfl) (by intro x; simp [encAc, Value.oneCell']) rfl rfl rfl rfl D134 B131 (by omega) (by omega) (by decide) (fun ao135 gb136 cp137 w138 A139 u140 gegb136 lngb136 => ?_)
  have zu140 := u140.size
  have lt_gb136 := A139.lt
  refine go ?_
  exact hK111 (k + 1) ao135 gb136 cp137 ⟨(by omega), A139⟩ (hu := (((u113.nx u122).nx u132).next u140 (fun i hi (h : (i = gq ∧ w107.heap.size ≤ i)) => show w107.heap.size ≤ i by first | omega | assumption)))
 refine go ?_
 refine f_ret4 (v1 := .slice ao ((acL V G k).length) cq) (v2 := .int .i64 (preS G G.length)) (v3 := .int .i64 0) (v4 := .int .i64 0) results8 rfl rfl rfl rfl ?_
 obtain rfl : k = V.length := by omega
 have hA9 := hac
 exact ⟨⟨_, _, _, rfl, hA9.sl (fun _ => rfl)⟩, u_d⟩

end Go.Proofs.YtjkpkbdoljjeiaaGreat
namespace Go.Proofs.YtjkpkbdoljjeiaaGreat
open Go Go.RowKit Go.Proofs.Tryz

structure P2 where
  c : Int
  n : Int
instance : Inhabited P2 := ⟨⟨default, default⟩⟩
def cdU : Cod Int P2 := ⟨.int .i64, fun m => .agg #[.int .i64 m.c, .int .i64 m.n]⟩
theorem keyU_ok : KeyOK Tryz.prog 3 cdU := KeyOK.int underlying3 _
theorem eqIn53 (n : Nat) (a0 : Int) (a1 : Int) (a2 : Int) (a3 : Int) (a4 : Int) (a5 : Int) (b0 : Int) (b1 : Int) (b2 : Int) (b3 : Int) (b4 : Int) (b5 : Int) (w : World) : (Op.equalIn (n + 2) 53 (.agg #[.int .i64 a0, .int .i64 a1, .int .i64 a2, .int .i64 a3, .int .i64 a4, .int .i64 a5]) (.agg #[.int .i64 b0, .int .i64 b1, .int .i64 b2, .int .i64 b3, .int .i64 b4, .int .i64 b5])).run Tryz.prog w = .ok (decide (a0 = b0) && decide (a1 = b1) && decide (a2 = b2) && decide (a3 = b3) && decide (a4 = b4) && decide (a5 = b5)) w := by
  have hS : Tryz.prog.underlying 53 = some (.struct (Tryz.prog.fieldsOf 53)) := by kernel_rfl
  have hp : Tryz.prog.stoodInHeld 53 = false := by kernel_rfl
  have p0 : ∀ (a0 : Int) (a1 : Int) (a2 : Int) (a3 : Int) (a4 : Int) (a5 : Int), (part 3 #[.int .i64 a0, .int .i64 a1, .int .i64 a2, .int .i64 a3, .int .i64 a4, .int .i64 a5] 0).run Tryz.prog w = .ok (.int .i64 a0) w := fun _ _ _ _ _ _ => by simp [part, isAgg3]
  have p1 : ∀ (a0 : Int) (a1 : Int) (a2 : Int) (a3 : Int) (a4 : Int) (a5 : Int), (part 3 #[.int .i64 a0, .int .i64 a1, .int .i64 a2, .int .i64 a3, .int .i64 a4, .int .i64 a5] 1).run Tryz.prog w = .ok (.int .i64 a1) w := fun _ _ _ _ _ _ => by simp [part, isAgg3]
  have p2 : ∀ (a0 : Int) (a1 : Int) (a2 : Int) (a3 : Int) (a4 : Int) (a5 : Int), (part 3 #[.int .i64 a0, .int .i64 a1, .int .i64 a2, .int .i64 a3, .int .i64 a4, .int .i64 a5] 2).run Tryz.prog w = .ok (.int .i64 a2) w := fun _ _ _ _ _ _ => by simp [part, isAgg3]
  have p3 : ∀ (a0 : Int) (a1 : Int) (a2 : Int) (a3 : Int) (a4 : Int) (a5 : Int), (part 3 #[.int .i64 a0, .int .i64 a1, .int .i64 a2, .int .i64 a3, .int .i64 a4, .int .i64 a5] 3).run Tryz.prog w = .ok (.int .i64 a3) w := fun _ _ _ _ _ _ => by simp [part, isAgg3]
  have p4 : ∀ (a0 : Int) (a1 : Int) (a2 : Int) (a3 : Int) (a4 : Int) (a5 : Int), (part 3 #[.int .i64 a0, .int .i64 a1, .int .i64 a2, .int .i64 a3, .int .i64 a4, .int .i64 a5] 4).run Tryz.prog w = .ok (.int .i64 a4) w := fun _ _ _ _ _ _ => by simp [part, isAgg3]
  have p5 : ∀ (a0 : Int) (a1 : Int) (a2 : Int) (a3 : Int) (a4 : Int) (a5 : Int), (part 3 #[.int .i64 a0, .int .i64 a1, .int .i64 a2, .int .i64 a3, .int .i64 a4, .int .i64 a5] 5).run Tryz.prog w = .ok (.int .i64 a5) w := fun _ _ _ _ _ _ => by simp [part, isAgg3]
  have e3 := fun a b w => equal_i64 underlying3 (n + 0) a b w
  rw [run_equalIn_struct w (n + 1) 53 _ _ hS hp]
  simp only [Program.fieldsOf, underlying53]
  simp only [Op.eqFields, Sem.run_bind, Sem.run_ite, p0, p1, p2, p3, p4, p5, e3, Result.andThen_ok]
  by_cases h0 : a0 = b0 <;> by_cases h1 : a1 = b1 <;> by_cases h2 : a2 = b2 <;> by_cases h3 : a3 = b3 <;> by_cases h4 : a4 = b4 <;> by_cases h5 : a5 = b5 <;> simp [h0, h1, h2, h3, h4, h5]

set_option maxHeartbeats 4000000 in
theorem Dues_k (bp : Nat) (w0 : World) (hp : Blk w0 bp 66 [.int .i64 0, .int .i64 1250, .int .i64 110]) :
    CallsV Tryz.prog 11 [.agg #[.int .i64 500, .int .i64 10, .int .i64 3, .int .i64 0, .int .i64 0, .int .i64 1000000], .int .i64 1, .slice (some ⟨bp, 0, none⟩) 1 1] w0 (fun v w' => (∃ ao g cp, v = .tuple #[.slice ao 1 cp, .int .i64 0, .int .i64 0] ∧ Sl encI 1 w' ao g 0 [629]) ∧ Ext w0 w') := by
 have hbp9 := hp.lt
 refine f_n func11 ?_
 refine go ?_
 refine x_b fun bk2 w3 ebk2 sbk2 B4 u5 => ?_
 refine go ?_
 refine x_l fun bk9 w10 ebk9 sbk9 B11 u12 => ?_
 refine x_c func22 rfl rfl (awithin_c 0 1000000 [500, 10, 3] (some ⟨bk9, 0, none⟩) bk9 0 3 _ (SlI.own (xs := [500, 10, 3]) B11) (by decide)) ?_
 rintro _ w15 ⟨rfl, u16⟩ zu16
 refine st1 ?_
 refine t_same 24 (v := .bool false) rfl (congrArg Value.bool (decide_eq_false (fun h => h (by decide)))) ?_
 refine go ?_
 refine x_l fun bk19 w20 ebk19 sbk19 B21 u22 => ?_
 refine x_c func22 rfl rfl (awithin_c 0 300 [0] (some ⟨bk19, 0, none⟩) bk19 0 1 _ (SlI.own (xs := [0]) B21) (by decide)) ?_
 rintro _ w25 ⟨rfl, u26⟩ zu26
 refine st1 ?_
 refine t_same 30 (v := .bool false) rfl (congrArg Value.bool (decide_eq_false (fun h => h (by decide)))) ?_
 refine go ?_
 refine x_l fun bk29 w30 ebk29 sbk29 B31 u32 => ?_
 refine x_c func22 rfl rfl (awithin_c 0 10000 [0] (some ⟨bk29, 0, none⟩) bk29 0 1 _ (SlI.own (xs := [0]) B31) (by decide)) ?_
 rintro _ w35 ⟨rfl, u36⟩ zu36
 refine st1 ?_
 refine t_same 37 (v := .bool false) rfl (congrArg Value.bool (decide_eq_false (fun h => h (by decide)))) ?_
 refine go ?_
 refine x_l fun bk39 w40 ebk39 sbk39 B41 u42 => ?_
 refine x_c func22 rfl rfl (awithin_c 0 100000000000000 [1000000] (some ⟨bk39, 0, none⟩) bk39 0 1 _ (SlI.own (xs := [1000000]) B41) (by decide)) ?_
 rintro _ w45 ⟨rfl, u46⟩ zu46
 refine st1 ?_
 refine t_same 44 (v := .bool false) rfl (congrArg Value.bool (decide_eq_false (fun h => h (by decide)))) ?_
 refine go ?_
 refine x_l fun bk50 w51 ebk50 sbk50 B52 u53 => ?_
 refine x_c func22 rfl rfl (awithin_c 1 40 [1] (some ⟨bk50, 0, none⟩) bk50 0 1 _ (SlI.own (xs := [1]) B52) (by decide)) ?_
 rintro _ w56 ⟨rfl, u57⟩ zu57
 refine st1 ?_
 refine t_same 50 (v := .bool false) rfl (congrArg Value.bool (decide_eq_false (fun h => h (by decide)))) ?_
 refine go ?_
 refine t_makemap rfl rfl (fun bk62 w63 ebk62 sbk62 M64 u65 => ?_)
 have zu65 := u65.size
 refine go ?_
 refine c_rounds 2 (WR.weak [(1, .int .i64 1), (3, .pointer (some ⟨bk2, 0, none⟩)), (6, .slice none 0 0), (9, .map (some bk62)), (56, .slice (some ⟨bp, 0, none⟩) 1 1), (57, .int .i64 1), (58, .int .i64 0)] ⟨rfl, rfl, rfl, rfl, rfl, rfl, rfl, trivial⟩ (r_round fun K69 hK69 => (q_of ?_)))
 refine go ?_
 refine t_index (j := 0) underlying67 sizeOf66 rfl rfl rfl rfl rfl rfl (by omega) ?_
 refine go ?_
 refine x_n fun bk74 w75 ebk74 sbk74 B76 u77 => ?_
 refine go ?_
 refine x_s fun w79 sw79 B81 u80 => ?_
 refine go ?_
 refine x_l fun bk85 w86 ebk85 sbk85 B87 u88 => ?_
 refine x_c func22 rfl rfl (awithin_c 0 0 [0] (some ⟨bk85, 0, none⟩) bk85 0 1 _ (SlI.own (xs := [0]) B87) (by decide)) ?_
 rintro _ w91 ⟨rfl, u92⟩ zu92
 refine st1 ?_
 refine t_same 70 (v := .bool false) rfl (congrArg Value.bool (decide_eq_false (fun h => h (by decide)))) ?_
 refine go ?_
 refine x_l fun bk96 w97 ebk96 sbk96 B98 u99 => ?_
 refine x_c func22 rfl rfl (awithin_c 0 400000 [1250] (some ⟨bk96, 0, none⟩) bk96 0 1 _ (SlI.own (xs := [1250]) B98) (by decide)) ?_
 rintro _ w102 ⟨rfl, u103⟩ zu103
 refine st1 ?_
 refine t_same 77 (v := .bool false) rfl (congrArg Value.bool (decide_eq_false (fun h => h (by decide)))) ?_
 refine go ?_
 refine x_l fun bk106 w107 ebk106 sbk106 B108 u109 => ?_
 refine x_c func22 rfl rfl (awithin_c 0 3000 [110] (some ⟨bk106, 0, none⟩) bk106 0 1 _ (SlI.own (xs := [110]) B108) (by decide)) ?_
 rintro _ w112 ⟨rfl, u113⟩ zu113
 refine st1 ?_
 refine t_same 83 (v := .bool false) rfl (congrArg Value.bool (decide_eq_false (fun h => h (by decide)))) ?_
 refine go ?_
 have hmp0 := MapG.ofMemo (cd := cdU) M64
 have hmpl := hmp0.lt
 have D117 := ((((((((hmp0.keep u77 (fun h => h)).keep u80 (show ¬ (bk62 = bk74) by omega)).keep u88 (fun h => h)).keep u92 (fun h => h)).keep u99 (fun h => h)).keep u103 (fun h => h)).keep u109 (fun h => h)).keep u113 (fun h => h))
 refine t_getG (cd := cdU) (a := (0 : Int)) (m := ([] : List (Int × P2))) (z := .agg #[.int .i64 0, .int .i64 0]) keyU_ok underlying101 zeroValue103 rfl rfl rfl rfl D117 (t_samehd (v := .agg #[.int .i64 0, .int .i64 0]) rfl ?_)
 refine x_n fun bk118 w119 ebk118 sbk118 B120 u121 => ?_
 refine x_s fun w123 sw123 B125 u124 => ?_
 refine go ?_
 refine t_quo rfl rfl rfl rfl (by omega) (by omega) (t_same 111 (v := .int .i64 129) rfl rfl ?_)
 refine go ?_
 have D130 := ((D117.keep u121 (fun h => h)).keep u124 (show ¬ (bk62 = bk118) by omega))
 refine t_mapG (cd := cdU) (a := (0 : Int)) (v := (⟨629, 1⟩ : P2)) (m := ([] : List (Int × P2))) keyU_ok underlying101 rfl rfl rfl rfl D130 (fun w127 sw127 M128 u129 => ?_)
 refine go ?_
 refine hK69 _ _ (WR.weak [(1, .int .i64 1), (3, .pointer (some ⟨bk2, 0, none⟩)), (6, .slice none 0 0), (9, .map (some bk62)), (56, .slice (some ⟨bp, 0, none⟩) 1 1), (57, .int .i64 1), (58, .int .i64 1)] ⟨rfl, rfl, rfl, rfl, rfl, rfl, rfl, trivial⟩ (r_round fun K132 hK132 => (q_of ?_)))
 refine go ?_
 refine c_rounds 2 (WR.weak [(3, .pointer (some ⟨bk2, 0, none⟩)), (6, .slice none 0 0), (9, .map (some bk62)), (118, .int .i64 1), (119, .int .i64 0)] ⟨rfl, rfl, rfl, rfl, rfl, trivial⟩ (r_round fun K137 hK137 => (q_of ?_)))
 refine go ?_
 refine t_getG (cd := cdU) (a := (0 : Int)) (m := (upG ([] : List (Int × P2)) (0 : Int) (⟨629, 1⟩ : P2))) (z := .agg #[.int .i64 0, .int .i64 0]) keyU_ok underlying101 zeroValue103 rfl rfl rfl rfl M128 (t_samehd (v := .agg #[.int .i64 629, .int .i64 1]) rfl ?_)
 refine x_n fun bk143 w144 ebk143 sbk143 B145 u146 => ?_
 refine x_s fun w148 sw148 B150 u149 => ?_
 refine go ?_
 refine t_quo rfl rfl rfl rfl (by omega) (by omega) (t_same 137 (v := .int .i64 0) rfl rfl ?_)
 refine go ?_
 refine x_s fun w154 sw154 B156 u155 => ?_
 refine go ?_
 refine t_min rfl rfl rfl rfl (t_same 145 (v := .int .i64 629) rfl rfl ?_)
 refine x_l fun bk158 w159 ebk158 sbk158 B160 u161 => ?_
 have hnil := Acc.nil (α := Int) encI 1 3 w159.heap.size w159 (by omega) (Nat.le_refl _)
 refine t_append (z := .int .i64 0) (bytes := 8) (k := 1) (base := w159.heap.size) (629 : Int) underlying32 (by kernel_rfl) rfl (by decide) (fun _ => rfl) (by intro x; simp [encI, Value.oneCell']) rfl rfl rfl rfl hnil B160 (by omega) (by decide) (by decide) (fun ao163 gb164 cp165 w166 A167 u168 gegb164 lngb164 => ?_)
 have zu168 := u168.size
 have lt_gb164 := A167.lt
 refine go ?_
 refine hK137 _ _ (WR.weak [(3, .pointer (some ⟨bk2, 0, none⟩)), (6, .slice ao163 (((([] : List Int) ++ [(629 : Int)])).length) cp165), (9, .map (some bk62)), (118, .int .i64 1), (119, .int .i64 1)] ⟨rfl, rfl, rfl, rfl, rfl, trivial⟩ (r_round fun K170 hK170 => (q_of ?_)))
 refine go ?_
 refine f_ret3 (v1 := .slice ao163 (((([] : List Int) ++ [(629 : Int)])).length) cp165) (v2 := .int .i64 0) (v3 := .int .i64 0) results11 rfl rfl rfl ?_
 have hA9 := A167
 exact ⟨⟨_, _, _, rfl, hA9.sl (fun _ => rfl)⟩, u_d⟩

theorem split3_c (b : Nat) (w : World) (hb : Blk w b 3 [.int .i64 1, .int .i64 1, .int .i64 1]) : CallsV Tryz.prog 7 [.int .i64 100, .slice (some ⟨b, 0, none⟩) 3 3] w (fun v w' => (∃ ao g cp, v = .tuple #[.slice ao 3 cp, .int .i64 0] ∧ Sl encI 1 w' ao g 0 [33, 33, 34]) ∧ Ext w w') :=
  (Split_c 100 [1, 1, 1] _ b 0 3 w (SlI.own (xs := [1, 1, 1]) hb) (by decide) (by decide) (by decide) (by decide) (by decide)).mono fun v w' ⟨⟨ao, g, cp, h1, h2, _⟩, u⟩ => ⟨⟨ao, g, cp, h1, h2⟩, u⟩

theorem moorShares_c  (w0 : World) :
    CallsV Tryz.prog 5 [] w0 (fun v w' => v = .bool true ∧ Ext w0 w') := by
 refine f_n func5 ?_
 refine go ?_
 refine x_l fun bk3 w4 ebk3 sbk3 B5 u6 => ?_
 refine x_c func7 rfl rfl (split3_c bk3 _ B5) ?_
 rintro _ w9 ⟨⟨aS, gS, cS, rfl, hS⟩, u10⟩ zu10
 have hgSl := hS.lt (by decide)
 refine go ?_
 refine x_l fun bk14 w15 ebk14 sbk14 B16 u17 => ?_
 refine x_c func11 rfl rfl (Dues_k bk14 _ B16) ?_
 rintro _ w20 ⟨⟨aD, gD, cD, rfl, hD⟩, u21⟩ zu21
 have hgDl := hD.lt (by decide)
 refine go ?_
 have D25 := ((hS.keep u17 (fun _ h => h)).keep u21 (fun _ h => h))
 have i26 : 2 < ([33, 33, 34] : List Int).length := (by decide)
 refine g_i 2 D25 (fun _ => ?_)
 iterate 2 refine st1 ?_
 refine t_same 34 (v := .bool true) rfl rfl ?_
 refine go ?_
 have i27 : 0 < ([629] : List Int).length := (by decide)
 refine g_i 0 hD (fun _ => ?_)
 iterate 2 refine st1 ?_
 refine t_same 45 (v := .bool true) rfl rfl ?_
 refine go ?_
 refine f_1 results5 ?_
 exact ⟨rfl, u_d⟩

theorem moorCall_k  (w0 : World) :
    CallsV Tryz.prog 10 [.int .i64 0, .int .i64 0, .int .i64 3000, .int .i64 1000, .int .i64 180] w0 (fun v w' => (∃ g, v = .slice (some ⟨g, 0, none⟩) mM.length 4 ∧ w0.heap.size ≤ g ∧ Sl encMsg 6 w' (some ⟨g, 0, none⟩) g 0 mM) ∧ Ext w0 w') := by
 refine f_n func10 ?_
 refine go ?_
 refine x_l fun bk3 w4 ebk3 sbk3 B5 u6 => ?_
 refine go ?_
 refine f_1 results10 ?_
 exact ⟨⟨bk3, rfl, by omega, Sl.ofBlk (enc := encMsg) (xs := mM) (fun _ => rfl) B5⟩, u_d⟩

set_option maxHeartbeats 4000000 in
theorem moorPays_c  (w0 : World) :
    CallsV Tryz.prog 4 [] w0 (fun v w' => v = .bool true ∧ Ext w0 w') := by
 refine f_n func4 ?_
 refine go ?_
 refine x_l fun bk3 w4 ebk3 sbk3 B5 u6 => ?_
 refine go ?_
 refine x_n fun bk8 w9 ebk8 sbk8 B10 u11 => ?_
 refine x_s fun w13 sw13 B15 u14 => ?_
 refine go ?_
 refine c_drawnM follows (fun _ => False) (.look 0 (.look 1 (.look 2 (.act 3 (.act 4 (.act 5 (.look 6 (.look 7 (.look 8 (.act 9 (.act 10 (.look 11 .done) .stop) .stop)))) (.act 9 (.act 5 (.look 6 (.look 7 (.look 8 (.act 10 (.look 11 .done) .stop)))) .stop) .stop)) (.act 9 (.act 4 (.act 5 (.look 6 (.look 7 (.look 8 (.act 10 (.look 11 .done) .stop)))) .stop) .stop) .stop)) (.act 4 (.act 3 (.act 5 (.look 6 (.look 7 (.look 8 (.act 9 (.act 10 (.look 11 .done) .stop) .stop)))) (.act 9 (.act 5 (.look 6 (.look 7 (.look 8 (.act 10 (.look 11 .done) .stop)))) .stop) .stop)) (.act 9 (.act 3 (.act 5 (.look 6 (.look 7 (.look 8 (.act 10 (.look 11 .done) .stop)))) .stop) .stop) .stop)) (.act 9 (.act 3 (.act 4 (.act 5 (.look 6 (.look 7 (.look 8 (.act 10 (.look 11 .done) .stop)))) .stop) .stop) (.act 4 (.act 3 (.act 5 (.look 6 (.look 7 (.look 8 (.act 10 (.look 11 .done) .stop)))) .stop) .stop) .stop)) .stop)))))) (by kernel_rfl) fun w18 u19 => ?_
 have zu19 := u19.size
 refine go ?_
 refine s_or ?_ ?_
 ·
  refine go ?_
  refine x_l fun bk21 w22 ebk21 sbk21 B23 u24 => ?_
  refine go ?_
  refine s_or ?_ ?_
  ·
   refine go ?_
   refine x_c func10 rfl rfl (moorCall_k _) ?_
   rintro _ w27 ⟨⟨gM, rfl, hgM, hM⟩, u28⟩ zu28
   have hgMl := hM.lt (by decide)
   refine go ?_
   refine s_or ?_ ?_
   ·
    refine go ?_
    have B31 := (((((B5.kx u11).keep u14 (by omega)).kx u19).kx u24).kx u28)
    have B32 := (B23.kx u28)
    refine x_c func9 rfl rfl (Bill_c mC mW (some ⟨bk3, 0, none⟩) bk3 0 2 mR (some ⟨bk21, 0, none⟩) bk21 0 2 mM (some ⟨gM, 0, none⟩) gM 0 4 _ (Sl.ofBlk (enc := encLow) (xs := mW) (fun _ => rfl) B31) (by decide) (Sl.ofBlk (enc := encFre) (xs := mR) (fun _ => rfl) B32) (by decide) hM (by decide) (by omega)) ?_
    rintro _ w34 ⟨⟨bB, eB, rfl, hRb⟩, u35⟩ zu35
    obtain ⟨rfl, rfl⟩ := m_bi hRb
    refine go ?_
    refine x_n fun bk38 w39 ebk38 sbk38 B40 u41 => ?_
    refine go ?_
    refine x_s fun w43 sw43 B45 u44 => ?_
    refine go ?_
    refine t_eqS (xs := [.int .i64 1020000, .int .i64 204000, .int .i64 70000, .int .i64 0, .int .i64 61200, .int .i64 1294000]) (ys := [.int .i64 1020000, .int .i64 204000, .int .i64 70000, .int .i64 0, .int .i64 61200, .int .i64 1294000]) (by kernel_rfl) (eqIn53 9998 1020000 204000 70000 0 61200 1294000 1020000 204000 70000 0 61200 1294000) rfl rfl rfl rfl (t_samehd (v := .bool true) rfl ?_)
    refine go ?_
    refine f_1 results4 ?_
    exact ⟨rfl, u_d⟩
   refine go ?_
   refine x_n fun bk48 w49 ebk48 sbk48 B50 u51 => ?_
   refine go ?_
   have B53 := ((((((B5.kx u11).keep u14 (by omega)).kx u19).kx u24).kx u28).kx u51)
   have B54 := ((B23.kx u28).kx u51)
   have D55 := (hM.keep u51 (fun _ h => h))
   refine x_c func9 rfl rfl (Bill_c mC mW (some ⟨bk3, 0, none⟩) bk3 0 2 mR (some ⟨bk21, 0, none⟩) bk21 0 2 mM (some ⟨gM, 0, none⟩) gM 0 4 _ (Sl.ofBlk (enc := encLow) (xs := mW) (fun _ => rfl) B53) (by decide) (Sl.ofBlk (enc := encFre) (xs := mR) (fun _ => rfl) B54) (by decide) D55 (by decide) (by omega)) ?_
   rintro _ w57 ⟨⟨bB, eB, rfl, hRb⟩, u58⟩ zu58
   obtain ⟨rfl, rfl⟩ := m_bi hRb
   refine go ?_
   refine x_s fun w61 sw61 B63 u62 => ?_
   refine go ?_
   refine t_eqS (xs := [.int .i64 1020000, .int .i64 204000, .int .i64 70000, .int .i64 0, .int .i64 61200, .int .i64 1294000]) (ys := [.int .i64 1020000, .int .i64 204000, .int .i64 70000, .int .i64 0, .int .i64 61200, .int .i64 1294000]) (by kernel_rfl) (eqIn53 9998 1020000 204000 70000 0 61200 1294000 1020000 204000 70000 0 61200 1294000) rfl rfl rfl rfl (t_samehd (v := .bool true) rfl ?_)
   refine go ?_
   refine f_1 results4 ?_
   exact ⟨rfl, u_d⟩
  refine go ?_
  refine x_n fun bk66 w67 ebk66 sbk66 B68 u69 => ?_
  refine go ?_
  refine x_c func10 rfl rfl (moorCall_k _) ?_
  rintro _ w72 ⟨⟨gM, rfl, hgM, hM⟩, u73⟩ zu73
  have hgMl := hM.lt (by decide)
  refine go ?_
  have B76 := ((((((B5.kx u11).keep u14 (by omega)).kx u19).kx u24).kx u69).kx u73)
  have B77 := ((B23.kx u69).kx u73)
  refine x_c func9 rfl rfl (Bill_c mC mW (some ⟨bk3, 0, none⟩) bk3 0 2 mR (some ⟨bk21, 0, none⟩) bk21 0 2 mM (some ⟨gM, 0, none⟩) gM 0 4 _ (Sl.ofBlk (enc := encLow) (xs := mW) (fun _ => rfl) B76) (by decide) (Sl.ofBlk (enc := encFre) (xs := mR) (fun _ => rfl) B77) (by decide) hM (by decide) (by omega)) ?_
  rintro _ w79 ⟨⟨bB, eB, rfl, hRb⟩, u80⟩ zu80
  obtain ⟨rfl, rfl⟩ := m_bi hRb
  refine go ?_
  refine x_s fun w83 sw83 B85 u84 => ?_
  refine go ?_
  refine t_eqS (xs := [.int .i64 1020000, .int .i64 204000, .int .i64 70000, .int .i64 0, .int .i64 61200, .int .i64 1294000]) (ys := [.int .i64 1020000, .int .i64 204000, .int .i64 70000, .int .i64 0, .int .i64 61200, .int .i64 1294000]) (by kernel_rfl) (eqIn53 9998 1020000 204000 70000 0 61200 1294000 1020000 204000 70000 0 61200 1294000) rfl rfl rfl rfl (t_samehd (v := .bool true) rfl ?_)
  refine go ?_
  refine f_1 results4 ?_
  exact ⟨rfl, u_d⟩
 refine s_or ?_ ?_
 ·
  refine go ?_
  refine x_c func10 rfl rfl (moorCall_k _) ?_
  rintro _ w89 ⟨⟨gM, rfl, hgM, hM⟩, u90⟩ zu90
  have hgMl := hM.lt (by decide)
  refine go ?_
  refine s_or ?_ ?_
  ·
   refine go ?_
   refine x_l fun bk93 w94 ebk93 sbk93 B95 u96 => ?_
   refine go ?_
   refine s_or ?_ ?_
   ·
    refine go ?_
    have B98 := (((((B5.kx u11).keep u14 (by omega)).kx u19).kx u90).kx u96)
    have D99 := (hM.keep u96 (fun _ h => h))
    refine x_c func9 rfl rfl (Bill_c mC mW (some ⟨bk3, 0, none⟩) bk3 0 2 mR (some ⟨bk93, 0, none⟩) bk93 0 2 mM (some ⟨gM, 0, none⟩) gM 0 4 _ (Sl.ofBlk (enc := encLow) (xs := mW) (fun _ => rfl) B98) (by decide) (Sl.ofBlk (enc := encFre) (xs := mR) (fun _ => rfl) B95) (by decide) D99 (by decide) (by omega)) ?_
    rintro _ w101 ⟨⟨bB, eB, rfl, hRb⟩, u102⟩ zu102
    obtain ⟨rfl, rfl⟩ := m_bi hRb
    refine go ?_
    refine x_n fun bk105 w106 ebk105 sbk105 B107 u108 => ?_
    refine go ?_
    refine x_s fun w110 sw110 B112 u111 => ?_
    refine go ?_
    refine t_eqS (xs := [.int .i64 1020000, .int .i64 204000, .int .i64 70000, .int .i64 0, .int .i64 61200, .int .i64 1294000]) (ys := [.int .i64 1020000, .int .i64 204000, .int .i64 70000, .int .i64 0, .int .i64 61200, .int .i64 1294000]) (by kernel_rfl) (eqIn53 9998 1020000 204000 70000 0 61200 1294000 1020000 204000 70000 0 61200 1294000) rfl rfl rfl rfl (t_samehd (v := .bool true) rfl ?_)
    refine go ?_
    refine f_1 results4 ?_
    exact ⟨rfl, u_d⟩
   refine go ?_
   refine x_n fun bk115 w116 ebk115 sbk115 B117 u118 => ?_
   refine go ?_
   have B120 := ((((((B5.kx u11).keep u14 (by omega)).kx u19).kx u90).kx u96).kx u118)
   have B121 := (B95.kx u118)
   have D122 := ((hM.keep u96 (fun _ h => h)).keep u118 (fun _ h => h))
   refine x_c func9 rfl rfl (Bill_c mC mW (some ⟨bk3, 0, none⟩) bk3 0 2 mR (some ⟨bk93, 0, none⟩) bk93 0 2 mM (some ⟨gM, 0, none⟩) gM 0 4 _ (Sl.ofBlk (enc := encLow) (xs := mW) (fun _ => rfl) B120) (by decide) (Sl.ofBlk (enc := encFre) (xs := mR) (fun _ => rfl) B121) (by decide) D122 (by decide) (by omega)) ?_
   rintro _ w124 ⟨⟨bB, eB, rfl, hRb⟩, u125⟩ zu125
   obtain ⟨rfl, rfl⟩ := m_bi hRb
   refine go ?_
   refine x_s fun w128 sw128 B130 u129 => ?_
   refine go ?_
   refine t_eqS (xs := [.int .i64 1020000, .int .i64 204000, .int .i64 70000, .int .i64 0, .int .i64 61200, .int .i64 1294000]) (ys := [.int .i64 1020000, .int .i64 204000, .int .i64 70000, .int .i64 0, .int .i64 61200, .int .i64 1294000]) (by kernel_rfl) (eqIn53 9998 1020000 204000 70000 0 61200 1294000 1020000 204000 70000 0 61200 1294000) rfl rfl rfl rfl (t_samehd (v := .bool true) rfl ?_)
   refine go ?_
   refine f_1 results4 ?_
   exact ⟨rfl, u_d⟩
  refine go ?_
  refine x_n fun bk133 w134 ebk133 sbk133 B135 u136 => ?_
  refine go ?_
  refine x_l fun bk138 w139 ebk138 sbk138 B140 u141 => ?_
  refine go ?_
  have B143 := ((((((B5.kx u11).keep u14 (by omega)).kx u19).kx u90).kx u136).kx u141)
  have D144 := ((hM.keep u136 (fun _ h => h)).keep u141 (fun _ h => h))
  refine x_c func9 rfl rfl (Bill_c mC mW (some ⟨bk3, 0, none⟩) bk3 0 2 mR (some ⟨bk138, 0, none⟩) bk138 0 2 mM (some ⟨gM, 0, none⟩) gM 0 4 _ (Sl.ofBlk (enc := encLow) (xs := mW) (fun _ => rfl) B143) (by decide) (Sl.ofBlk (enc := encFre) (xs := mR) (fun _ => rfl) B140) (by decide) D144 (by decide) (by omega)) ?_
  rintro _ w146 ⟨⟨bB, eB, rfl, hRb⟩, u147⟩ zu147
  obtain ⟨rfl, rfl⟩ := m_bi hRb
  refine go ?_
  refine x_s fun w150 sw150 B152 u151 => ?_
  refine go ?_
  refine t_eqS (xs := [.int .i64 1020000, .int .i64 204000, .int .i64 70000, .int .i64 0, .int .i64 61200, .int .i64 1294000]) (ys := [.int .i64 1020000, .int .i64 204000, .int .i64 70000, .int .i64 0, .int .i64 61200, .int .i64 1294000]) (by kernel_rfl) (eqIn53 9998 1020000 204000 70000 0 61200 1294000 1020000 204000 70000 0 61200 1294000) rfl rfl rfl rfl (t_samehd (v := .bool true) rfl ?_)
  refine go ?_
  refine f_1 results4 ?_
  exact ⟨rfl, u_d⟩
 refine go ?_
 refine x_n fun bk155 w156 ebk155 sbk155 B157 u158 => ?_
 refine go ?_
 refine s_or ?_ ?_
 ·
  refine go ?_
  refine x_l fun bk160 w161 ebk160 sbk160 B162 u163 => ?_
  refine go ?_
  refine x_c func10 rfl rfl (moorCall_k _) ?_
  rintro _ w166 ⟨⟨gM, rfl, hgM, hM⟩, u167⟩ zu167
  have hgMl := hM.lt (by decide)
  refine go ?_
  have B170 := ((((((B5.kx u11).keep u14 (by omega)).kx u19).kx u158).kx u163).kx u167)
  have B171 := (B162.kx u167)
  refine x_c func9 rfl rfl (Bill_c mC mW (some ⟨bk3, 0, none⟩) bk3 0 2 mR (some ⟨bk160, 0, none⟩) bk160 0 2 mM (some ⟨gM, 0, none⟩) gM 0 4 _ (Sl.ofBlk (enc := encLow) (xs := mW) (fun _ => rfl) B170) (by decide) (Sl.ofBlk (enc := encFre) (xs := mR) (fun _ => rfl) B171) (by decide) hM (by decide) (by omega)) ?_
  rintro _ w173 ⟨⟨bB, eB, rfl, hRb⟩, u174⟩ zu174
  obtain ⟨rfl, rfl⟩ := m_bi hRb
  refine go ?_
  refine x_s fun w177 sw177 B179 u178 => ?_
  refine go ?_
  refine t_eqS (xs := [.int .i64 1020000, .int .i64 204000, .int .i64 70000, .int .i64 0, .int .i64 61200, .int .i64 1294000]) (ys := [.int .i64 1020000, .int .i64 204000, .int .i64 70000, .int .i64 0, .int .i64 61200, .int .i64 1294000]) (by kernel_rfl) (eqIn53 9998 1020000 204000 70000 0 61200 1294000 1020000 204000 70000 0 61200 1294000) rfl rfl rfl rfl (t_samehd (v := .bool true) rfl ?_)
  refine go ?_
  refine f_1 results4 ?_
  exact ⟨rfl, u_d⟩
 refine go ?_
 refine x_c func10 rfl rfl (moorCall_k _) ?_
 rintro _ w183 ⟨⟨gM, rfl, hgM, hM⟩, u184⟩ zu184
 have hgMl := hM.lt (by decide)
 refine go ?_
 refine x_l fun bk187 w188 ebk187 sbk187 B189 u190 => ?_
 refine go ?_
 have B192 := ((((((B5.kx u11).keep u14 (by omega)).kx u19).kx u158).kx u184).kx u190)
 have D193 := (hM.keep u190 (fun _ h => h))
 refine x_c func9 rfl rfl (Bill_c mC mW (some ⟨bk3, 0, none⟩) bk3 0 2 mR (some ⟨bk187, 0, none⟩) bk187 0 2 mM (some ⟨gM, 0, none⟩) gM 0 4 _ (Sl.ofBlk (enc := encLow) (xs := mW) (fun _ => rfl) B192) (by decide) (Sl.ofBlk (enc := encFre) (xs := mR) (fun _ => rfl) B189) (by decide) D193 (by decide) (by omega)) ?_
 rintro _ w195 ⟨⟨bB, eB, rfl, hRb⟩, u196⟩ zu196
 obtain ⟨rfl, rfl⟩ := m_bi hRb
 refine go ?_
 refine x_s fun w199 sw199 B201 u200 => ?_
 refine go ?_
 refine t_eqS (xs := [.int .i64 1020000, .int .i64 204000, .int .i64 70000, .int .i64 0, .int .i64 61200, .int .i64 1294000]) (ys := [.int .i64 1020000, .int .i64 204000, .int .i64 70000, .int .i64 0, .int .i64 61200, .int .i64 1294000]) (by kernel_rfl) (eqIn53 9998 1020000 204000 70000 0 61200 1294000 1020000 204000 70000 0 61200 1294000) rfl rfl rfl rfl (t_samehd (v := .bool true) rfl ?_)
 refine go ?_
 refine f_1 results4 ?_
 exact ⟨rfl, u_d⟩

end Go.Proofs.YtjkpkbdoljjeiaaGreat
