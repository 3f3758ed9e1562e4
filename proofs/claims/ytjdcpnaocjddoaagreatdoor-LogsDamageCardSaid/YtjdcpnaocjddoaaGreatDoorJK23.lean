/-
  Part 23 of the proof: contracts and plain laws. Conditions: none.
-/
import Derived.Test.YtjdcpnaocjddoaaGreatDoorJK22
namespace Go.Proofs.YtjdcpnaocjddoaaGreatDoor
open Go Go.RowKit Go.Proofs.Tryz
end Go.Proofs.YtjdcpnaocjddoaaGreatDoor
namespace Go.Proofs.YtjdcpnaocjddoaaGreatDoor
open Go Go.RowKit Go.Proofs.Tryz
/-- the number that a word adds -/
def addR (k : Nat) (w : List UInt8) : Int := if k = 2 then digV 6 0 w else stR w
def SgT (k : Nat) (w : List UInt8) (sg : Int) (tx : List UInt8) : Prop := (k ≤ 2 → sg = 1 ∧ tx = w) ∧ (2 < k → sg * digV 6 0 tx = stR w) ∧ tx.length ≤ w.length
theorem SgT.small {k : Nat} {w : List UInt8} (h : ¬ 2 < k) : SgT k w 1 w := ⟨fun _ => ⟨rfl, rfl⟩, fun q => absurd q h, Nat.le_refl _⟩
theorem SgT.add {k : Nat} {w : List UInt8} {sg : Int} {tx : List UInt8} (h : SgT k w sg tx) (hk : 2 ≤ k) : sg * digV 6 0 tx = addR k w := by
  unfold addR
  by_cases q : k = 2
  · obtain ⟨e1, e2⟩ := h.1 (by omega)
    rw [if_pos q, e1, e2, Int.one_mul]
  · rw [if_neg q]; exact h.2.1 (by omega)
end Go.Proofs.YtjdcpnaocjddoaaGreatDoor
namespace Go.Proofs.YtjdcpnaocjddoaaGreatDoor
open Go Go.RowKit Go.Proofs.Tryz
theorem GausM.slG {B : Nat} {W : World} {ys : List Gau} (h : GausM B W ys) : SlG W ys := fun z hz => by
  obtain ⟨h1, h2, h3⟩ := h z hz
  refine ⟨?_, h3.cap_le, h2⟩
  rw [h1]; exact h3.sl (fun _ => rfl)
set_option maxHeartbeats 4000000 in
theorem gcopy_c (l : List Gau) (al : Option Addr) (bl ol cl : Nat) (w0 : World) (hl : Sl encGau 3 w0 al bl ol l) (hll : l.length ≤ 1000000) (hss : SlG w0 l) (hpos : 0 < w0.heap.size) :
    CallsV Tryz.prog 43 [.slice al l.length cl] w0 (fun v w' => (∃ ys a9 g9 c9, v = .slice a9 (List.length ys) c9 ∧ ys.map Gau.bare = l.map Gau.bare ∧ Acc encGau 3 80 w0.heap.size w' a9 g9 c9 ys ∧ GausM w0.heap.size w' ys) ∧ Ext w0 w') := by
 refine f_n func43 ?_
 refine go ?_
 refine x_l fun bk3 w4 ebk3 sbk3 B5 u6 => ?_
 refine go ?_
 refine x_l2 (fun i => i = bk3 ∨ w4.heap.size ≤ i) [0] (fun (ys : List Gau) (q : (Option Addr × Nat × Nat)) => [(3, .slice q.1 ys.length q.2.2), (4, .int .i64 (ys.length : Int))]) (fun ys q w => (ys.length ≤ l.length) ∧ (Acc encGau 3 80 w0.heap.size w q.1 q.2.1 q.2.2 ys) ∧ (q.2.1 = bk3 ∨ w4.heap.size ≤ q.2.1) ∧ (GausM w0.heap.size w ys) ∧ (ys.map Gau.bare = (l.take ys.length).map Gau.bare)) (fun ys q => l.length - ys.length) ([]) (some ⟨bk3, 0, none⟩, bk3, 0) ⟨(Nat.zero_le _), (Acc.ofBlk (base := w0.heap.size) (xs := ([] : List Gau)) encGau 3 (fun _ => rfl) B5 (by omega) (by decide)), (.inl rfl), (GausM.nil _ _), rfl⟩ ?_
 rintro ys q w11 ⟨hyl, hA, hqW, hM, hcy⟩ u12 zu12 K10 hK10
 have E13 := Sc.mk (((Upd.refl (fun _ => False) w0).nx u6).next u12 (fun i hi h => by omega))
 have lt_q_2_1 := hA.lt
 have hMne := hM.ne hA
 refine go ?_
 refine q_p (fun g10 => ?_) fun g10 => ?_
 ·
  obtain ⟨hsx9, _, hxs9⟩ := hss _ (nth_mem (xs := l) (i := ys.length) (by omega))
  refine go ?_
  refine g_i ys.length (hl.keep E13.u (fun _ h => h)) (fun _ => ?_)
  refine go ?_
  refine x_n fun bk19 w20 ebk19 sbk19 B21 u22 => ?_
  refine x_s fun w24 sw24 B26 u25 => ?_
  refine go ?_
  refine x_c func77 rfl rfl (ints_c (nth l ys.length).s (nth l ys.length).ao (nth l ys.length).g (nth l ys.length).ob (nth l ys.length).cp _ (hsx9.keep ((E13.u.nx u22).next u25 (fun i hi h => by omega)) (fun _ h => h)) hxs9 (by omega)) ?_
  rintro _ w30 ⟨⟨ai, gi9, ci, rfl, haci⟩, u31⟩ zu31
  have D34 := (((hA.keep u22 (fun _ h => h)).keep u25 (fun hb => show ¬ (q.2.1 = bk19) by first | omega | assumption)).keep u31 (fun _ h => h))
  obtain ⟨gi, hac, hgiw⟩ := Acc.lowH (base' := w0.heap.size) haci (by omega) hpos
  have hgi : gi < w30.heap.size := hac.lt
  have hgq : w0.heap.size ≤ gi → gi ≠ q.2.1 := fun hb => (GausM.snoc (GausM.nil w0.heap.size _) (y := (⟨(nth l ys.length).st, (nth l ys.length).hr, (nth l ys.length).s, ai, gi, 0, ci⟩ : Gau)) rfl hxs9 hac).ne D34 (⟨(nth l ys.length).st, (nth l ys.length).hr, (nth l ys.length).s, ai, gi, 0, ci⟩ : Gau) (by simp) hb
  have lt_gi := hac.lt
  refine go ?_
  refine x_s fun w35 sw35 B37 u36 => ?_
  refine go ?_
  refine x_l fun bk39 w40 ebk39 sbk39 B41 u42 => ?_
  have D44 := ((D34.keep u36 (fun hb => show ¬ (q.2.1 = bk19) by first | omega | assumption)).keep u42 (fun _ h => h))
  refine t_append (z := .agg #[.int .i64 0, .int .i64 0, .slice none 0 0]) (bytes := 40) (k := 3) (base := w0.heap.size) (⟨(nth l ys.length).st, (nth l ys.length).hr, (nth l ys.length).s, ai, gi, 0, ci⟩ : Gau) underlying78 (by kernel_rfl) rfl (by decide) (fun _ => rfl) (by intro x; simp [encGau, Value.oneCell']) rfl rfl rfl rfl D44 B41 (by omega) (by omega) (by decide) (fun ao45 gb46 cp47 w48 A49 u50 gegb46 lngb46 => ?_)
  have zu50 := u50.size
  have lt_gb46 := A49.lt
  refine go ?_
  have D52 := (GausM.keep (GausM.keep (GausM.keep (GausM.keep (GausM.keep (GausM.keep hM u22 (fun _ _ _ h => h)) u25 (fun z hz hb => by have h9 := hMne z hz hb; have h8 := (hM z hz).2.2.lt; show ¬ (z.g = bk19); omega)) u31 (fun _ _ _ h => h)) u36 (fun z hz hb => by have h9 := hMne z hz hb; have h8 := (hM z hz).2.2.lt; show ¬ (z.g = bk19); omega)) u42 (fun _ _ _ h => h)) u50 (fun z hz hb => by have h9 := hMne z hz hb; have h8 := (hM z hz).2.2.lt; show ¬ ((z.g = q.2.1 ∧ w0.heap.size ≤ z.g)); omega))
  have D53 := (((hac.keep u36 (fun hb => show ¬ (gi = bk19) by first | omega | assumption)).keep u42 (fun _ h => h)).keep u50 (fun hb => show ¬ ((gi = q.2.1 ∧ w0.heap.size ≤ gi)) by first | omega | assumption))
  exact hK10 (ys ++ [(⟨(nth l ys.length).st, (nth l ys.length).hr, (nth l ys.length).s, ai, gi, 0, ci⟩ : Gau)]) (ao45, gb46, cp47) ⟨(by rw [List.length_append, List.length_singleton]; omega), A49, (show gb46 = bk3 ∨ w4.heap.size ≤ gb46 by omega), (GausM.snoc D52 rfl hxs9 D53), (by rw [List.length_append, List.map_append, hcy]; show _ = (l.take (ys.length + 1)).map Gau.bare; rw [take_nth (show ys.length < l.length by omega), List.map_append]; rfl)⟩ (hm := (by show l.length - (ys ++ [_]).length < l.length - ys.length; rw [List.length_append, List.length_singleton]; omega)) (hs := by exact ⟨rfl, (congrArg (fun z => some (Value.int .i64 z)) (by rw [List.length_append, List.length_singleton, Int.natCast_add]; rfl)), rfl, trivial⟩)
 rw [List.take_of_length_le (show l.length ≤ ys.length by omega)] at hcy
 refine go ?_
 refine f_1 results43 ?_
 exact ⟨⟨ys, _, _, _, rfl, hcy, hA, hM⟩, u_d⟩

end Go.Proofs.YtjdcpnaocjddoaaGreatDoor
namespace Go.Proofs.YtjdcpnaocjddoaaGreatDoor
open Go Go.RowKit Go.Proofs.Tryz
end Go.Proofs.YtjdcpnaocjddoaaGreatDoor
namespace Go.Proofs.YtjdcpnaocjddoaaGreatDoor
open Go Go.RowKit
/-! ### bills and gauge lines are read as they were written -/
/-- a line of text, without its line feed -/
def lnP (t : List UInt8) : List UInt8 := t ++ [UInt8.ofNat (97 + weighP t 673 / 26).toNat, UInt8.ofNat (97 + weighP t 673 % 26).toNat]
theorem sealP_ln (t : List UInt8) : sealP t = lnP t ++ [10] := by unfold sealP lnP; simp only [List.append_assoc, List.cons_append, List.nil_append]
theorem lnP_len (t : List UInt8) : (lnP t).length = t.length + 2 := by unfold lnP; rw [List.length_append]; rfl
theorem letter_ne10 {n : Nat} (h : 97 ≤ n ∧ n ≤ 122) : (10 : UInt8) ≠ UInt8.ofNat n := fun e => by
  have h1 := congrArg UInt8.toNat e
  rw [UInt8.toNat_ofNat', Nat.mod_eq_of_lt (by omega)] at h1
  have h2 : (10 : UInt8).toNat = 10 := rfl
  omega
theorem lnP_free {t : List UInt8} (h : (10 : UInt8) ∉ t) : (10 : UInt8) ∉ lnP t := fun h9 => by
  have hw := weighP_l t
  unfold lnP at h9
  rcases List.mem_append.1 h9 with h9 | h9
  · exact h h9
  rcases List.mem_cons.1 h9 with h9 | h9
  · exact letter_ne10 hw.1 h9
  · exact letter_ne10 hw.2 (List.mem_singleton.1 h9)
theorem pcs_line {c : UInt8} {a b : List UInt8} (h : c ∉ a) : pcs c (a ++ [c] ++ b) = a :: pcs c b := by
  rw [pcs_cut c a.length (a ++ [c] ++ b) (by simp) (fun k hk e9 => h (by
      have e8 : nth (a ++ [c] ++ b) k = nth a k := by rw [List.append_assoc]; exact nth_apL hk
      rw [e8] at e9; exact e9 ▸ nth_mem hk)) (by rw [List.append_assoc, nth_ap0]; rfl)]
  rw [List.append_assoc, List.take_left', show a.length + 1 = (a ++ [c]).length by simp, ← List.append_assoc, List.drop_left']
  · rfl
  · rfl
theorem flat_len (m : Nat) : ∀ (ls : List (List UInt8)), (∀ s ∈ ls, s.length ≤ m) → (ls.flatMap fun s => s ++ [(10 : UInt8)]).length ≤ ls.length * (m + 1)
  | [], _ => Nat.zero_le _
  | s :: r, h => by
    have h1 := h s (List.mem_cons_self ..)
    have h2 := flat_len m r fun t ht => h t (List.mem_cons_of_mem _ ht)
    have h3 : ([(10 : UInt8)] : List UInt8).length = 1 := rfl
    rw [List.flatMap_cons, List.length_append, List.length_append, h3, List.length_cons, Nat.succ_mul]
    omega
theorem join_free {c d : UInt8} (hc : c ≠ d) : ∀ l : List (List UInt8), (∀ w ∈ l, c ∉ w) → c ∉ Lib.join l [d]
  | [], _ => fun h9 => by cases h9
  | [y], hy => by rw [Lib.join_one]; exact hy y (List.mem_cons_self ..)
  | y :: z :: l, hy => by
    have ih := join_free hc (z :: l) fun w hw => hy w (List.mem_cons_of_mem _ hw)
    rw [join_two]
    intro h9
    rcases List.mem_append.1 h9 with h9 | h9
    · rcases List.mem_append.1 h9 with h9 | h9
      · exact hy y (List.mem_cons_self ..) h9
      · exact hc (List.mem_singleton.1 h9)
    · exact ih h9
theorem snoc_free {c d : UInt8} {l : List UInt8} (h : c ∉ l) (hc : c ≠ d) : c ∉ l ++ [d] := fun h9 => by
  rcases List.mem_append.1 h9 with h9 | h9
  · exact h h9
  · exact hc (List.mem_singleton.1 h9)
theorem itoa_free10 {n : Int} (h : 0 ≤ n) : (10 : UInt8) ∉ Lib.itoa n := by rw [itoa_dec h]; exact decD_free (by decide)
theorem itoa_len6 {n : Int} (h : 0 ≤ n ∧ n ≤ 100000) : (Lib.itoa n).length ≤ 6 := by rw [itoa_dec h.1]; exact decD_len 5 n.toNat (by omega)
/-! bills -/
def linB (x : Bil) : List UInt8 := lnP (Lib.join (wrdB x) [32] ++ [32])
theorem billP_ln (x : Bil) : billP x = linB x ++ [10] := sealP_ln (Lib.join (wrdB x) [32] ++ [32])
theorem wrdB_free10 {x : Bil} (h : okBill x = true) : ∀ w ∈ wrdB x, (10 : UInt8) ∉ w := by
  obtain ⟨h1, h2, h3, h4, ⟨h5, h6⟩, _, _⟩ := okBill_iff h
  have hs := sealG_rng (by decide) h1
  intro w hw
  unfold wrdB at hw
  rcases List.mem_cons.1 hw with rfl | hw
  · exact itoa_free10 (by omega)
  rcases List.mem_cons.1 hw with rfl | hw
  · exact itoa_free10 (by omega)
  rcases List.mem_cons.1 hw with rfl | hw
  · exact itoa_free10 (by omega)
  rcases List.mem_cons.1 hw with rfl | hw
  · intro h9
    rcases List.mem_append.1 h9 with h9 | h9
    · exact snoc_free (itoa_free10 (by omega)) (by decide) h9
    · exact itoa_free10 (by omega) h9
  · rw [List.mem_singleton.1 hw]
    refine join_free (by decide) _ fun w hw => ?_
    unfold sealsP at hw
    split at hw
    · rw [List.mem_singleton.1 hw]; decide
    · obtain ⟨n, hn, rfl⟩ := List.mem_map.1 hw
      exact itoa_free10 (hs n hn).1
theorem wrdB_len {x : Bil} (h : okBill x = true) : (Lib.join (wrdB x) [32]).length ≤ 355 := by
  obtain ⟨h1, h2, h3, h4, ⟨h5, h6⟩, _, h8⟩ := okBill_iff h
  have hs := sealG_mem (by decide) h1
  have h9 := join_len [32] 70 (wrdB x) fun w hw => by
    unfold wrdB at hw
    rcases List.mem_cons.1 hw with rfl | hw
    · exact Nat.le_trans (itoa_len6 (by omega)) (by decide)
    rcases List.mem_cons.1 hw with rfl | hw
    · exact Nat.le_trans (itoa_len6 (by omega)) (by decide)
    rcases List.mem_cons.1 hw with rfl | hw
    · exact Nat.le_trans (itoa_len6 (by omega)) (by decide)
    rcases List.mem_cons.1 hw with rfl | hw
    · have a := itoa_len6 h5
      have b := itoa_len6 h6
      rw [List.length_append, List.length_append]
      have c : ([62] : List UInt8).length = 1 := rfl
      omega
    · rw [List.mem_singleton.1 hw]
      have hq : (sealsP x.s).length ≤ 10 ∧ ∀ y ∈ sealsP x.s, y.length ≤ 6 := by
        unfold sealsP
        split
        · exact ⟨by simp, fun y hy => by rw [List.mem_singleton.1 hy]; decide⟩
        · refine ⟨by rw [List.length_map]; omega, fun y hy => ?_⟩
          obtain ⟨n, hn, rfl⟩ := List.mem_map.1 hy
          have := hs n hn
          exact itoa_len6 (by omega)
      have hj := join_len [44] 6 _ hq.2
      have h7 : ([44] : List UInt8).length = 1 := rfl
      have h6 : (sealsP x.s).length * (6 + 1) ≤ 10 * 7 := Nat.mul_le_mul_right _ hq.1
      rw [h7] at hj
      omega
  have h7 : (wrdB x).length = 5 := rfl
  have h6 : ([32] : List UInt8).length = 1 := rfl
  rw [h7, h6] at h9
  exact h9
theorem linB_free {x : Bil} (h : okBill x = true) : (10 : UInt8) ∉ linB x := lnP_free (snoc_free (join_free (by decide) _ (wrdB_free10 h)) (by decide))
theorem linB_len {x : Bil} (h : okBill x = true) : (linB x).length ≤ 599 := by
  have h1 := wrdB_len h
  unfold linB
  rw [lnP_len, List.length_append]
  have h6 : ([32] : List UInt8).length = 1 := rfl
  omega
theorem chkB_mem : ∀ {l : List Bil} {m : Int}, chkB m l = 0 → ∀ x ∈ l, okBill x = true
  | [], _, _, _, h => by cases h
  | x :: r, m, h, y, hy => by
    have h : (if okBill x = true then (if m < x.n then chkB x.n r else 6) else 2) = 0 := h
    by_cases h1 : okBill x = true
    · rw [if_pos h1] at h
      by_cases h2 : m < x.n
      · rw [if_pos h2] at h
        rcases List.mem_cons.1 hy with rfl | hy
        · exact h1
        · exact chkB_mem h y hy
      · rw [if_neg h2] at h; cases h
    · rw [if_neg h1] at h; cases h
theorem flatB (l : List Bil) : l.flatMap billP = (l.map linB).flatMap fun s => s ++ [10] := by
  rw [List.flatMap_map]
  exact congrArg (fun f => List.flatMap f l) (funext billP_ln)
theorem textP_len {l : List Bil} (hn : l.length ≤ 200) : (textP l).1.length ≤ 120000 := by
  unfold textP
  rw [if_neg (by omega)]
  split
  · rename_i h0
    have hm := chkB_mem h0
    rw [flatB]
    have := flat_len 599 (l.map linB) (fun s hs => by obtain ⟨x, hx, rfl⟩ := List.mem_map.1 hs; exact linB_len (hm x hx))
    rw [List.length_map] at this
    have h2 : l.length * (599 + 1) ≤ 200 * 600 := Nat.mul_le_mul_right _ hn
    exact Nat.le_trans this h2
  · exact Nat.zero_le _
/-! gauge lines -/
def linG (x : Gau) : List UInt8 := lnP (Lib.join (wrdG x) [32] ++ [32])
theorem gauP_ln (x : Gau) : gauP x = linG x ++ [10] := sealP_ln (Lib.join (wrdG x) [32] ++ [32])
theorem dW_free10 (d : Int) : (10 : UInt8) ∉ dW d := by
  unfold dW
  by_cases q : d < 0
  · rw [if_pos q, itoa_minus q]
    intro h
    rcases List.mem_cons.1 h with h | h
    · exact absurd h (by decide)
    · exact decD_free (by decide) h
  · rw [if_neg q, itoa_dec (by omega)]
    intro h
    rcases List.mem_cons.1 h with h | h
    · exact absurd h (by decide)
    · exact decD_free (by decide) h
theorem difG_free10 : ∀ (r : List Int) (a : Int), ∀ w ∈ difG a r, (10 : UInt8) ∉ w
  | [], _, w, h => by cases h
  | b :: r, a, w, h => by
    rcases List.mem_cons.1 (show w ∈ dW (b - a) :: difG b r from h) with h | h
    · rw [h]; exact dW_free10 _
    · exact difG_free10 r b w h
theorem wrdG_free10 {x : Gau} (h : okGau x = true) : ∀ w ∈ wrdG x, (10 : UInt8) ∉ w := by
  obtain ⟨h1, h2, ⟨h3, h4⟩, h5⟩ := okGau_iff h
  have h0 := h5 _ (nth_mem (xs := x.s) (i := 0) (by omega))
  intro w hw
  unfold wrdG at hw
  rcases List.mem_append.1 hw with hw | hw
  · rcases List.mem_cons.1 hw with hw | hw
    · rw [hw]; exact itoa_free10 h1.1
    rcases List.mem_cons.1 hw with hw | hw
    · rw [hw]; exact itoa_free10 h2.1
    · rw [List.mem_singleton.1 hw]; exact itoa_free10 h0.1
  · exact difG_free10 _ _ w hw
theorem linG_free {x : Gau} (h : okGau x = true) : (10 : UInt8) ∉ linG x := lnP_free (snoc_free (join_free (by decide) _ (wrdG_free10 h)) (by decide))
theorem linG_len {x : Gau} (h : okGau x = true) : (linG x).length ≤ 599 := by
  have h1 := (wrdG_len h).2
  unfold linG
  rw [lnP_len, List.length_append]
  have h6 : ([32] : List UInt8).length = 1 := rfl
  omega
theorem chkGa_mem : ∀ {l : List Gau} {m : Option Gau}, chkGa m l = 0 → ∀ x ∈ l, okGau x = true
  | [], _, _, _, h => by cases h
  | x :: r, m, h, y, hy => by
    have h : (if okGau x = true then (if aftO m x then chkGa (some x) r else 6) else 2) = 0 := h
    by_cases h1 : okGau x = true
    · rw [if_pos h1] at h
      by_cases h2 : aftO m x
      · rw [if_pos h2] at h
        rcases List.mem_cons.1 hy with rfl | hy
        · exact h1
        · exact chkGa_mem h y hy
      · rw [if_neg h2] at h; cases h
    · rw [if_neg h1] at h; cases h
theorem flatGa (l : List Gau) : l.flatMap gauP = (l.map linG).flatMap fun s => s ++ [10] := by
  rw [List.flatMap_map]
  exact congrArg (fun f => List.flatMap f l) (funext gauP_ln)
theorem textG_len {l : List Gau} (hn : l.length ≤ 200) : (textG l).1.length ≤ 120000 := by
  unfold textG
  rw [if_neg (by omega)]
  split
  · rename_i h0
    have hm := chkGa_mem h0
    rw [flatGa]
    have := flat_len 599 (l.map linG) (fun s hs => by obtain ⟨x, hx, rfl⟩ := List.mem_map.1 hs; exact linG_len (hm x hx))
    rw [List.length_map] at this
    have h2 : l.length * (599 + 1) ≤ 200 * 600 := Nat.mul_le_mul_right _ hn
    exact Nat.le_trans this h2
  · exact Nat.zero_le _
end Go.Proofs.YtjdcpnaocjddoaaGreatDoor
namespace Go.Proofs.YtjdcpnaocjddoaaGreatDoor
open Go Go.RowKit
/-! ### damage that is refused: texts -/
theorem cop673 : ∀ k : Nat, k < 673 → 0 < k → Nat.gcd 673 k = 1 := by decide +kernel
theorem no673 {k : Nat} {d : Int} (h0 : 0 < k) (hk : k < 673) (hd : d ≠ 0) (hb : -255 ≤ d ∧ d ≤ 255) : ¬ (673 : Int) ∣ (k : Int) * d := fun h => by
  have h1 : (673 : Nat) ∣ k * d.natAbs := by
    have h2 := Int.natAbs_dvd_natAbs.2 h
    rw [Int.natAbs_mul, Int.natAbs_natCast] at h2
    exact h2
  have h3 := Nat.Coprime.dvd_of_dvd_mul_left (show Nat.Coprime 673 k from cop673 k hk h0) h1
  have h4 := Nat.le_of_dvd (by omega) h3
  omega
theorem letters_inj {a b : List UInt8} (h1 : UInt8.ofNat (97 + weighP a 673 / 26).toNat = UInt8.ofNat (97 + weighP b 673 / 26).toNat) (h2 : UInt8.ofNat (97 + weighP a 673 % 26).toNat = UInt8.ofNat (97 + weighP b 673 % 26).toNat) : weighP a 673 = weighP b 673 := by
  have ra := weighP_r a
  have rb := weighP_r b
  have e1 := congrArg UInt8.toNat h1
  have e2 := congrArg UInt8.toNat h2
  rw [UInt8.toNat_ofNat', UInt8.toNat_ofNat'] at e1 e2
  omega
theorem lnP_split (t : List UInt8) : ∃ a b : UInt8, lnP (t ++ [32]) = t ++ [32] ++ [a, b] ∧ 97 ≤ a.toNat ∧ 97 ≤ b.toNat := by
  have hw := weighP_l (t ++ [32])
  refine ⟨_, _, rfl, ?_, ?_⟩
  · rw [UInt8.toNat_ofNat', Nat.mod_eq_of_lt (by omega)]; exact hw.1.1
  · rw [UInt8.toNat_ofNat', Nat.mod_eq_of_lt (by omega)]; exact hw.2.1
theorem chkd_all {s : List UInt8} (h : chkdP s = 0) : 3 ≤ s.length ∧ s.length ≤ 600 ∧ nth s (s.length - 3) = 32 ∧ lnP (s.take (s.length - 3) ++ [32]) = s := by
  unfold chkdP at h
  split at h
  · cases h
  · rename_i h1
    split at h
    · cases h
    · rename_i h2
      have h3 : ¬ (nth s (s.length - 3) ≠ 32) := fun q => h1 (.inr q)
      have h4 : 3 ≤ s.length ∧ s.length ≤ 600 := Decidable.not_not.1 fun q => h1 (.inl q)
      have h5 := Decidable.not_not.1 h2
      rw [sealP_ln] at h5
      exact ⟨h4.1, h4.2, Decidable.not_not.1 h3, (List.append_inj' h5 rfl).1⟩
/-- a line with one changed byte -/
theorem chkd_set {t : List UInt8} (ht : t.length ≤ 597) {q : Nat} {c : UInt8} (hq : q < (lnP (t ++ [32])).length) (hc : c ≠ nth (lnP (t ++ [32])) q) : chkdP ((lnP (t ++ [32])).set q c) ≠ 0 := fun h => by
  obtain ⟨_, _, h3, h4⟩ := chkd_all h
  have hl := lnP_len (t ++ [32])
  rw [List.length_append, show ([32] : List UInt8).length = 1 from rfl] at hl
  rw [List.length_set, show (lnP (t ++ [32])).length - 3 = t.length by omega] at h3 h4
  have e : lnP (t ++ [32]) = t ++ (32 :: [UInt8.ofNat (97 + weighP (t ++ [32]) 673 / 26).toNat, UInt8.ofNat (97 + weighP (t ++ [32]) 673 % 26).toNat]) := by
    unfold lnP; rw [List.append_assoc]; rfl
  by_cases q1 : q < t.length
  · have e1 : ((lnP (t ++ [32])).set q c).take t.length = t.set q c := by rw [e, List.set_append_left _ _ q1, List.take_left' (by rw [List.length_set])]
    rw [e1] at h4
    have e2 : (lnP (t ++ [32])).set q c = t.set q c ++ [32] ++ [UInt8.ofNat (97 + weighP (t ++ [32]) 673 / 26).toNat, UInt8.ofNat (97 + weighP (t ++ [32]) 673 % 26).toNat] := by rw [e, List.set_append_left _ _ q1, List.append_assoc]; rfl
    rw [e2] at h4
    have h5 := (List.append_inj' h4 rfl).2
    injection h5 with h6 h7
    injection h7 with h7 _
    have h8 := letters_inj h6 h7
    have e3 : t.set q c ++ [32] = (t ++ [32]).set q c := (List.set_append_left _ _ q1).symm
    rw [e3] at h8
    unfold weighP at h8
    have hq9 : q < (t ++ [32]).length := by rw [List.length_append]; omega
    rw [wsum_set c _ 0 q hq9] at h8
    have e4 : nth (t ++ [32]) q = nth (lnP (t ++ [32])) q := by rw [e, nth_apL q1, nth_apL q1]
    rw [e4] at h8
    have hd : (c.toNat : Int) - ((nth (lnP (t ++ [32])) q).toNat : Int) ≠ 0 := by have := u8_ne hc; omega
    have r1 := c.toNat_lt
    have r2 := (nth (lnP (t ++ [32])) q).toNat_lt
    have e5 : ((0 : Nat) : Int) + (q : Int) + 1 = ((q + 1 : Nat) : Int) := by omega
    rw [e5] at h8
    refine no673 (k := q + 1) (d := (c.toNat : Int) - ((nth (lnP (t ++ [32])) q).toNat : Int)) (by omega) (by omega) hd (by omega) ?_
    generalize ((q + 1 : Nat) : Int) * ((c.toNat : Int) - ((nth (lnP (t ++ [32])) q).toNat : Int)) = D at h8 ⊢
    omega
  · by_cases q2 : q = t.length
    · have e1 : nth ((lnP (t ++ [32])).set q c) t.length = c := by rw [q2, nth_setE (by omega)]
      have e2 : nth (lnP (t ++ [32])) q = 32 := by rw [q2, e, nth_ap0]; rfl
      rw [e1] at h3
      exact hc (by rw [e2, h3])
    · have e1 : ((lnP (t ++ [32])).set q c).take t.length = t := by rw [e, List.set_append_right _ _ (by omega), List.take_left' rfl]
      rw [e1] at h4
      have h9 := congrArg (fun l => nth l q) h4
      simp only [nth_setE hq] at h9
      exact hc h9.symm
/-- the beginning of a line -/
theorem chkd_take {t : List UInt8} (h0 : t ≠ []) (h9 : ∀ c ∈ t, c.toNat < 97) (hz : nth t (t.length - 1) ≠ 32) {q : Nat} (hq : q < (lnP (t ++ [32])).length) : chkdP ((lnP (t ++ [32])).take q) ≠ 0 := fun h => by
  obtain ⟨h1, _, h3, h4⟩ := chkd_all h
  have hl := lnP_len (t ++ [32])
  rw [List.length_append, show ([32] : List UInt8).length = 1 from rfl] at hl
  have hM : ((lnP (t ++ [32])).take q).length = q := by rw [List.length_take]; omega
  rw [hM] at h1 h3 h4
  obtain ⟨a, b, e, _, _⟩ := lnP_split t
  obtain ⟨a9, b9, e9, _, hb9⟩ := lnP_split (((lnP (t ++ [32])).take q).take (q - 3))
  have hp := List.length_pos_iff.2 h0
  have hn : ∀ i, i < q → nth ((lnP (t ++ [32])).take q) i = nth (lnP (t ++ [32])) i := fun i hi => by
    unfold nth; rw [List.getD_eq_getElem?_getD, List.getElem?_take, if_pos hi, List.getD_eq_getElem?_getD]
  -- the last byte is a letter
  have hlast : nth ((lnP (t ++ [32])).take q) (q - 1) = b9 := by
    rw [e9] at h4
    have hl9 : (((lnP (t ++ [32])).take q).take (q - 3)).length = q - 3 := by rw [List.length_take, hM]; omega
    have h5 : nth _ (q - 1) = nth _ (q - 1) := congrArg (fun l => nth l (q - 1)) h4
    rw [← h5]
    have e8 : ((lnP (t ++ [32])).take q).take (q - 3) ++ [32] ++ [a9, b9] = (((lnP (t ++ [32])).take q).take (q - 3) ++ [32] ++ [a9]) ++ [b9] := by simp
    rw [e8, show q - 1 = (((lnP (t ++ [32])).take q).take (q - 3) ++ [32] ++ [a9]).length by rw [List.length_append, List.length_append, hl9]; simp only [List.length_cons, List.length_nil]; omega, nth_ap0]; rfl
  rw [hn (q - 1) (by omega), e, List.append_assoc] at hlast
  by_cases c1 : q - 1 < t.length
  · rw [nth_apL c1] at hlast
    have := h9 _ (nth_mem c1)
    rw [hlast] at this; omega
  · by_cases c2 : q - 1 = t.length
    · rw [c2, nth_ap0] at hlast
      have h7 : (32 : UInt8) = b9 := hlast
      rw [← h7] at hb9
      exact absurd hb9 (by decide)
    · have c3 : q - 3 = t.length - 1 := by omega
      rw [hn (q - 3) (by omega), c3, e, List.append_assoc, nth_apL (by omega)] at h3
      exact hz h3
theorem pcs_befr : ∀ (pre : List (List UInt8)) (X : List UInt8), (∀ s ∈ pre, (10 : UInt8) ∉ s) → pcs 10 ((pre.flatMap fun s => s ++ [10]) ++ X) = pre ++ pcs 10 X
  | [], X, _ => rfl
  | s :: r, X, h => by
    rw [List.flatMap_cons, List.append_assoc, pcs_line (h s (List.mem_cons_self ..)), pcs_befr r X fun t ht => h t (List.mem_cons_of_mem _ ht)]; rfl
theorem in_lines {pre : List (List UInt8)} {M X : List UInt8} (h : ∀ s ∈ pre, (10 : UInt8) ∉ s) (hM : (10 : UInt8) ∉ M) : M ∈ linesP ((pre.flatMap fun s => s ++ [10]) ++ (M ++ [10] ++ X)) := by
  unfold linesP
  rw [pcs_befr pre _ h, pcs_line hM, List.dropLast_append_of_ne_nil (by simp)]
  have hne := pcs_ne 10 X
  cases hx : pcs 10 X with
  | nil => exact absurd hx hne
  | cons y r => rw [List.dropLast_cons_cons]; exact List.mem_append_right _ (List.mem_cons_self ..)
/-- where a byte of a text lies -/
theorem flat_at : ∀ (ls : List (List UInt8)) (p : Nat), p < (ls.flatMap fun s => s ++ [(10 : UInt8)]).length → nth (ls.flatMap fun s => s ++ [(10 : UInt8)]) p ≠ 10 → ∃ pre s post q, ls = pre ++ s :: post ∧ q < s.length ∧ p = (pre.flatMap fun s => s ++ [(10 : UInt8)]).length + q
  | [], p, h, _ => absurd h (Nat.not_lt_zero _)
  | s :: r, p, h, hn => by
    have hl : (s ++ [(10 : UInt8)]).length = s.length + 1 := by rw [List.length_append]; rfl
    rw [List.flatMap_cons] at h hn
    by_cases c1 : p < s.length
    · exact ⟨[], s, r, p, rfl, c1, by rw [List.flatMap_nil, List.length_nil, Nat.zero_add]⟩
    · by_cases c2 : p = s.length
      · rw [List.append_assoc, c2, nth_ap0] at hn
        exact absurd rfl hn
      · have e : nth ((s ++ [(10 : UInt8)]) ++ (r.flatMap fun s => s ++ [(10 : UInt8)])) p = nth (r.flatMap fun s => s ++ [(10 : UInt8)]) (p - (s.length + 1)) := by
          unfold nth
          rw [List.getD_eq_getElem?_getD, List.getElem?_append_right (by omega), ← List.getD_eq_getElem?_getD, hl]
        rw [e] at hn
        rw [List.length_append, hl] at h
        obtain ⟨pre, x, post, q, h1, h2, h3⟩ := flat_at r (p - (s.length + 1)) (by omega) hn
        exact ⟨s :: pre, x, post, q, by rw [h1]; rfl, h2, by rw [List.flatMap_cons, List.length_append, hl]; omega⟩
/-- a text with a changed byte has a line that is refused -/
theorem bad_line {ls : List (List UInt8)} (h10 : ∀ s ∈ ls, (10 : UInt8) ∉ s) (hln : ∀ s ∈ ls, ∃ t, s = lnP (t ++ [32]) ∧ t.length ≤ 597 ∧ t ≠ [] ∧ (∀ c ∈ t, c.toNat < 97) ∧ nth t (t.length - 1) ≠ 32) {p : Nat} {c : UInt8} (hp : p < (ls.flatMap fun s => s ++ [(10 : UInt8)]).length) (hn : nth (ls.flatMap fun s => s ++ [(10 : UInt8)]) p ≠ 10) (hc : c ≠ nth (ls.flatMap fun s => s ++ [(10 : UInt8)]) p) :
    ∃ M, M ∈ linesP ((ls.flatMap fun s => s ++ [(10 : UInt8)]).set p c) ∧ chkdP M ≠ 0 := by
  obtain ⟨pre, s, post, q, rfl, hq, rfl⟩ := flat_at ls p hp hn
  obtain ⟨t, e, h1, h2, h3, h4⟩ := hln s (List.mem_append_right _ (List.mem_cons_self ..))
  have hpre : ∀ x ∈ pre, (10 : UInt8) ∉ x := fun x hx => h10 x (List.mem_append_left _ hx)
  have hs := h10 s (List.mem_append_right _ (List.mem_cons_self ..))
  have hT : ((pre ++ s :: post).flatMap fun s => s ++ [(10 : UInt8)]) = (pre.flatMap fun s => s ++ [(10 : UInt8)]) ++ (s ++ ([10] ++ post.flatMap fun s => s ++ [(10 : UInt8)])) := by rw [List.flatMap_append, List.flatMap_cons, List.append_assoc]
  have hv : nth ((pre ++ s :: post).flatMap fun s => s ++ [(10 : UInt8)]) ((pre.flatMap fun s => s ++ [(10 : UInt8)]).length + q) = nth s q := by
    rw [hT]
    unfold nth
    rw [List.getD_eq_getElem?_getD, List.getElem?_append_right (by omega), Nat.add_sub_cancel_left, List.getElem?_append_left hq, List.getD_eq_getElem?_getD]
  rw [hv] at hc hn
  rw [hT, List.set_append_right _ _ (by omega), Nat.add_sub_cancel_left, List.set_append_left _ _ hq]
  generalize (post.flatMap fun s => s ++ [(10 : UInt8)]) = X
  by_cases c10 : c = 10
  · have e2 : s.set q c ++ ([10] ++ X) = s.take q ++ [10] ++ (s.drop (q + 1) ++ ([10] ++ X)) := by
      rw [List.set_eq_take_append_cons_drop, if_pos hq, c10]; simp
    rw [e2]
    refine ⟨s.take q, in_lines hpre (fun h => hs (List.mem_of_mem_take h)), ?_⟩
    rw [e] at hq ⊢
    exact chkd_take h2 h3 h4 hq
  · rw [← List.append_assoc (s.set q c)]
    refine ⟨s.set q c, in_lines hpre (fun h => ?_), ?_⟩
    · rcases List.mem_or_eq_of_mem_set h with h | h
      · exact hs h
      · exact c10 h.symm
    · rw [e] at hq hc ⊢
      exact chkd_set h1 hq hc
/-! bytes of words -/
theorem join_all {P : UInt8 → Prop} {d : UInt8} (hd : P d) : ∀ l : List (List UInt8), (∀ w ∈ l, ∀ c ∈ w, P c) → ∀ c ∈ Lib.join l [d], P c
  | [], _ => fun c h9 => by cases h9
  | [y], hy => fun c h9 => by rw [Lib.join_one] at h9; exact hy y (List.mem_cons_self ..) c h9
  | y :: z :: l, hy => fun c h9 => by
    have ih := join_all hd (z :: l) fun w hw => hy w (List.mem_cons_of_mem _ hw)
    rw [join_two] at h9
    rcases List.mem_append.1 h9 with h9 | h9
    · rcases List.mem_append.1 h9 with h9 | h9
      · exact hy y (List.mem_cons_self ..) c h9
      · rw [List.mem_singleton.1 h9]; exact hd
    · exact ih c h9
theorem join_last {ws : List (List UInt8)} (h0 : ws ≠ []) (hw : ∀ w ∈ ws, w ≠ [] ∧ (32 : UInt8) ∉ w) : Lib.join ws [32] ≠ [] ∧ nth (Lib.join ws [32]) ((Lib.join ws [32]).length - 1) ≠ 32 := by
  have e := List.dropLast_concat_getLast h0
  have hl := hw _ (List.getLast_mem h0)
  generalize ws.getLast h0 = w at e hl
  have hp := List.length_pos_iff.2 hl.1
  have key : ∀ A : List UInt8, Lib.join ws [32] = A ++ w → Lib.join ws [32] ≠ [] ∧ nth (Lib.join ws [32]) ((Lib.join ws [32]).length - 1) ≠ 32 := fun A h => by
    rw [h]
    refine ⟨fun h9 => hl.1 (List.append_eq_nil_iff.1 h9).2, fun h9 => hl.2 ?_⟩
    rw [List.length_append] at h9
    unfold nth at h9
    rw [List.getD_eq_getElem?_getD, List.getElem?_append_right (by omega), ← List.getD_eq_getElem?_getD, show A.length + w.length - 1 - A.length = w.length - 1 by omega] at h9
    have h8 : nth w (w.length - 1) = 32 := h9
    rw [← h8]; exact nth_mem (by omega)
  by_cases h1 : ws.dropLast = []
  · refine key [] ?_
    rw [← e, h1]; exact Lib.join_one ..
  · refine key (Lib.join ws.dropLast [32] ++ [32]) ?_
    have h8 := join_snoc [32] ws.dropLast w h1
    rw [e] at h8; exact h8
theorem itoa_ne {n : Int} (h : 0 ≤ n) : Lib.itoa n ≠ [] := fun e => by
  rw [itoa_dec h] at e
  have := decD_pos n.toNat
  rw [e] at this; cases this
theorem itoa_low {n : Int} (h : 0 ≤ n) : ∀ c ∈ Lib.itoa n, c.toNat < 97 := fun c hc => by
  rw [itoa_dec h] at hc
  have := isDg_iff.1 (decD_dg _ c hc)
  omega
theorem wrdB_ne {x : Bil} (h : okBill x = true) : ∀ w ∈ wrdB x, w ≠ [] ∧ ∀ c ∈ w, c.toNat < 97 := by
  obtain ⟨h1, h2, h3, h4, ⟨h5, h6⟩, _, _⟩ := okBill_iff h
  have hs := sealG_rng (by decide) h1
  have hi : ∀ n : Int, 0 ≤ n → Lib.itoa n ≠ [] ∧ ∀ c ∈ Lib.itoa n, c.toNat < 97 := fun n hn => ⟨itoa_ne hn, itoa_low hn⟩
  intro w hw
  unfold wrdB at hw
  rcases List.mem_cons.1 hw with rfl | hw
  · exact hi _ (by omega)
  rcases List.mem_cons.1 hw with rfl | hw
  · exact hi _ (by omega)
  rcases List.mem_cons.1 hw with rfl | hw
  · exact hi _ (by omega)
  rcases List.mem_cons.1 hw with rfl | hw
  · refine ⟨by simp, fun c hc => ?_⟩
    rcases List.mem_append.1 hc with hc | hc
    · rcases List.mem_append.1 hc with hc | hc
      · exact (hi _ h5.1).2 c hc
      · rw [List.mem_singleton.1 hc]; decide
    · exact (hi _ h6.1).2 c hc
  · rw [List.mem_singleton.1 hw]
    clear hw
    have hq : sealsP x.s ≠ [] ∧ ∀ w ∈ sealsP x.s, w ≠ [] ∧ ∀ c ∈ w, c.toNat < 97 := by
      unfold sealsP
      split
      · exact ⟨by simp, fun w hw => by rw [List.mem_singleton.1 hw]; exact ⟨by simp, by decide⟩⟩
      · rename_i hne
        refine ⟨fun e => hne (by rw [List.map_eq_nil_iff.1 e]; rfl), fun w hw => ?_⟩
        obtain ⟨n, hn, rfl⟩ := List.mem_map.1 hw
        exact hi n (hs n hn).1
    refine ⟨?_, join_all (by decide) _ fun w hw => (hq.2 w hw).2⟩
    cases he : sealsP x.s with
    | nil => exact absurd he hq.1
    | cons y r =>
      have hy := (hq.2 y (by rw [he]; exact List.mem_cons_self ..)).1
      rw [Lib.join_cons]
      exact fun e => hy (List.append_eq_nil_iff.1 e).1
theorem linB_ln {x : Bil} (h : okBill x = true) : ∃ t, linB x = lnP (t ++ [32]) ∧ t.length ≤ 597 ∧ t ≠ [] ∧ (∀ c ∈ t, c.toNat < 97) ∧ nth t (t.length - 1) ≠ 32 := by
  have hw := wrdB_ne h
  have hf := wrd_free h
  have hl := wrdB_len h
  obtain ⟨h1, h2⟩ := join_last (ws := wrdB x) (by simp [wrdB]) fun w hx => ⟨(hw w hx).1, hf w hx⟩
  exact ⟨Lib.join (wrdB x) [32], rfl, by omega, h1, join_all (by decide) _ fun w hx => (hw w hx).2, h2⟩
theorem dW_ne {d : Int} (h : -10000 ≤ d ∧ d ≤ 10000) : dW d ≠ [] ∧ ∀ c ∈ dW d, c.toNat < 97 := by
  unfold dW
  by_cases q : d < 0
  · rw [if_pos q, itoa_minus q]
    refine ⟨by simp, fun c hc => ?_⟩
    rcases List.mem_cons.1 hc with rfl | hc
    · decide
    · have := isDg_iff.1 (decD_dg _ c hc); omega
  · rw [if_neg q]
    refine ⟨by simp, fun c hc => ?_⟩
    rcases List.mem_cons.1 hc with rfl | hc
    · decide
    · exact itoa_low (by omega) c hc
theorem difG_ne : ∀ (r : List Int) (a : Int), (0 ≤ a ∧ a ≤ 10000) → (∀ n ∈ r, 0 ≤ n ∧ n ≤ 10000) → ∀ w ∈ difG a r, w ≠ [] ∧ ∀ c ∈ w, c.toNat < 97
  | [], _, _, _, w, h => by cases h
  | b :: r, a, ha, hr, w, h => by
    have hb := hr b (List.mem_cons_self ..)
    rcases List.mem_cons.1 (show w ∈ dW (b - a) :: difG b r from h) with h | h
    · rw [h]; exact dW_ne (by omega)
    · exact difG_ne r b hb (fun n hn => hr n (List.mem_cons_of_mem _ hn)) w h
theorem wrdG_ne {x : Gau} (h : okGau x = true) : ∀ w ∈ wrdG x, w ≠ [] ∧ ∀ c ∈ w, c.toNat < 97 := by
  obtain ⟨h1, h2, ⟨h3, h4⟩, h5⟩ := okGau_iff h
  have h0 := h5 _ (nth_mem (xs := x.s) (i := 0) (by omega))
  have hi : ∀ n : Int, 0 ≤ n → Lib.itoa n ≠ [] ∧ ∀ c ∈ Lib.itoa n, c.toNat < 97 := fun n hn => ⟨itoa_ne hn, itoa_low hn⟩
  intro w hw
  unfold wrdG at hw
  rcases List.mem_append.1 hw with hw | hw
  · rcases List.mem_cons.1 hw with hw | hw
    · rw [hw]; exact hi _ h1.1
    rcases List.mem_cons.1 hw with hw | hw
    · rw [hw]; exact hi _ h2.1
    · rw [List.mem_singleton.1 hw]; exact hi _ h0.1
  · exact difG_ne _ _ h0 (fun n hn => h5 n (List.mem_of_mem_drop hn)) w hw
theorem linG_ln {x : Gau} (h : okGau x = true) : ∃ t, linG x = lnP (t ++ [32]) ∧ t.length ≤ 597 ∧ t ≠ [] ∧ (∀ c ∈ t, c.toNat < 97) ∧ nth t (t.length - 1) ≠ 32 := by
  have hw := wrdG_ne h
  have hf := wrdG_free h
  have hl := (wrdG_len h).2
  obtain ⟨h1, h2⟩ := join_last (ws := wrdG x) (by simp [wrdG]) fun w hx => ⟨(hw w hx).1, hf w hx⟩
  exact ⟨Lib.join (wrdG x) [32], rfl, by omega, h1, join_all (by decide) _ fun w hx => (hw w hx).2, h2⟩
/-! readers that refuse -/
theorem goB_err (L : List UInt8 → Bil × Int) : ∀ (ls : List (List UInt8)) (acc : List Bil), (goB L acc ls).2.2 = 0 → ∀ s ∈ ls, (L s).2 = 0
  | [], _, _, _, h => by cases h
  | x :: r, acc, h, s, hs => by
    by_cases h1 : (L x).2 = 0
    · by_cases h2 : 0 < acc.length ∧ ¬ (nth acc (acc.length - 1)).n < (L x).1.n
      · rw [goB_twice h1 h2] at h; cases h
      · rw [goB_next h1 h2] at h
        rcases List.mem_cons.1 hs with rfl | hs
        · exact h1
        · exact goB_err L r _ h s hs
    · rw [goB_bad h1] at h; exact absurd h h1
theorem goB_none (L : List UInt8 → Bil × Int) : ∀ (ls : List (List UInt8)) (acc : List Bil), (goB L acc ls).2.2 ≠ 0 → (goB L acc ls).1 = []
  | [], _, h => absurd rfl h
  | x :: r, acc, h => by
    by_cases h1 : (L x).2 = 0
    · by_cases h2 : 0 < acc.length ∧ ¬ (nth acc (acc.length - 1)).n < (L x).1.n
      · rw [goB_twice h1 h2]
      · rw [goB_next h1 h2] at h ⊢
        exact goB_none L r _ h
    · rw [goB_bad h1]
theorem linesR_1 {t : List UInt8} (h : (linesR t).2 = 0) : (linesR t).1 = linesP t := by
  unfold linesR at h ⊢
  split at h
  · cases h
  · split at h
    · cases h
    · split at h
      · cases h
      · rename_i a b c
        rw [if_neg a, if_neg b, if_neg c]
theorem readB_bad {L : List UInt8 → Bil × Int} {t M : List UInt8} (h : M ∈ linesP t) (hM : (L M).2 ≠ 0) : (readB L t).2.2 ≠ 0 ∧ (readB L t).1 = [] := by
  unfold readB
  by_cases h0 : (linesR t).2 = 0
  · rw [if_neg (fun q => q h0), linesR_1 h0]
    have h1 : (goB L [] (linesP t)).2.2 ≠ 0 := fun e => hM (goB_err L _ _ e M h)
    exact ⟨h1, goB_none L _ _ h1⟩
  · rw [if_pos h0]
    exact ⟨h0, rfl⟩
theorem readB_dmg {l : List Bil} (hn : l.length ≤ 200) (h : (textP l).2 = 0) {p : Nat} {c : UInt8} (hp : p < (textP l).1.length) (h10 : nth (textP l).1 p ≠ 10) (hc : c ≠ nth (textP l).1 p) : (readB (lineB parL) ((textP l).1.set p c)).2.2 ≠ 0 ∧ (readB (lineB parL) ((textP l).1.set p c)).1 = [] := by
  have h0 : chkB 0 l = 0 := by
    unfold textP at h
    rw [if_neg (by omega)] at h
    by_cases q : chkB 0 l = 0
    · exact q
    · rw [if_neg q] at h; exact h
  have hm := chkB_mem h0
  have e : (textP l).1 = (l.map linB).flatMap fun s => s ++ [10] := by
    unfold textP
    rw [if_neg (by omega), if_pos h0]; exact flatB l
  rw [e] at hp h10 hc ⊢
  obtain ⟨M, h1, h2⟩ := bad_line (fun s hs => by obtain ⟨x, hx, rfl⟩ := List.mem_map.1 hs; exact linB_free (hm x hx)) (fun s hs => by obtain ⟨x, hx, rfl⟩ := List.mem_map.1 hs; exact linB_ln (hm x hx)) hp h10 hc
  refine readB_bad h1 ?_
  unfold lineB
  rw [if_pos h2]; exact h2
theorem goG_err (L : List UInt8 → Gau × Int) : ∀ (ls : List (List UInt8)) (acc : List Gau), (goG L acc ls).2.2 = 0 → ∀ s ∈ ls, (L s).2 = 0
  | [], _, _, _, h => by cases h
  | x :: r, acc, h, s, hs => by
    by_cases h1 : (L x).2 = 0
    · by_cases h2 : 0 < acc.length ∧ ¬ aftG (nth acc (acc.length - 1)) (L x).1
      · rw [goG_twice h1 h2] at h; cases h
      · rw [goG_next h1 h2] at h
        rcases List.mem_cons.1 hs with rfl | hs
        · exact h1
        · exact goG_err L r _ h s hs
    · rw [goG_bad h1] at h; exact absurd h h1
theorem goG_none (L : List UInt8 → Gau × Int) : ∀ (ls : List (List UInt8)) (acc : List Gau), (goG L acc ls).2.2 ≠ 0 → (goG L acc ls).1 = []
  | [], _, h => absurd rfl h
  | x :: r, acc, h => by
    by_cases h1 : (L x).2 = 0
    · by_cases h2 : 0 < acc.length ∧ ¬ aftG (nth acc (acc.length - 1)) (L x).1
      · rw [goG_twice h1 h2]
      · rw [goG_next h1 h2] at h ⊢
        exact goG_none L r _ h
    · rw [goG_bad h1]
theorem readG_bad {L : List UInt8 → Gau × Int} {t M : List UInt8} (h : M ∈ linesP t) (hM : (L M).2 ≠ 0) : (readG L t).2.2 ≠ 0 ∧ (readG L t).1 = [] := by
  unfold readG
  by_cases h0 : (linesR t).2 = 0
  · rw [if_neg (fun q => q h0), linesR_1 h0]
    have h1 : (goG L [] (linesP t)).2.2 ≠ 0 := fun e => hM (goG_err L _ _ e M h)
    exact ⟨h1, goG_none L _ _ h1⟩
  · rw [if_pos h0]
    exact ⟨h0, rfl⟩
theorem readG_dmg {l : List Gau} (hn : l.length ≤ 200) (h : (textG l).2 = 0) {p : Nat} {c : UInt8} (hp : p < (textG l).1.length) (h10 : nth (textG l).1 p ≠ 10) (hc : c ≠ nth (textG l).1 p) : (readG (lineG parGL) ((textG l).1.set p c)).2.2 ≠ 0 ∧ (readG (lineG parGL) ((textG l).1.set p c)).1 = [] := by
  have h0 : chkGa none l = 0 := by
    unfold textG at h
    rw [if_neg (by omega)] at h
    by_cases q : chkGa none l = 0
    · exact q
    · rw [if_neg q] at h; exact h
  have hm := chkGa_mem h0
  have e : (textG l).1 = (l.map linG).flatMap fun s => s ++ [10] := by
    unfold textG
    rw [if_neg (by omega), if_pos h0]; exact flatGa l
  rw [e] at hp h10 hc ⊢
  obtain ⟨M, h1, h2⟩ := bad_line (fun s hs => by obtain ⟨x, hx, rfl⟩ := List.mem_map.1 hs; exact linG_free (hm x hx)) (fun s hs => by obtain ⟨x, hx, rfl⟩ := List.mem_map.1 hs; exact linG_ln (hm x hx)) hp h10 hc
  refine readG_bad h1 ?_
  unfold lineG
  rw [if_pos h2]; exact h2

end Go.Proofs.YtjdcpnaocjddoaaGreatDoor
namespace Go.Proofs.YtjdcpnaocjddoaaGreatDoor
open Go Go.RowKit Go.Proofs.Tryz
/-! ### codes, one after another -/
/-! ### what is written is read -/
theorem ReadLogE_c (xs : List UInt8) (ab : Option Addr) (bb ob cb : Nat) (w0 : World) (hs : Sl encY 1 w0 ab bb ob xs) (hcb : xs.length ≤ cb) (hxl : xs.length ≤ 1000000) (hpos : 0 < w0.heap.size) (r1 : List Ent) (r2 r3 : Int) (hr : readR xs = (r1, r2, r3)) :
    CallsV Tryz.prog 34 [.slice ab xs.length cb] w0 fun v w' => (∃ a9 g9 c9, v = .tuple #[.slice a9 (List.length r1) c9, .int .i64 r2, .int .i64 r3] ∧ Acc encEnt 6 43 w0.heap.size w' a9 g9 c9 r1) ∧ Ext w0 w' := by
  have h := ReadLog_c xs ab bb ob cb w0 hs hcb hxl hpos
  rw [hr] at h; exact h
theorem bare_len {ys zs : List Bil} (h : ys.map Bil.bare = zs.map Bil.bare) : ys.length = zs.length := by have h9 := congrArg List.length h; rwa [List.length_map, List.length_map] at h9
theorem bare_lenG {ys zs : List Gau} (h : ys.map Gau.bare = zs.map Gau.bare) : ys.length = zs.length := by have h9 := congrArg List.length h; rwa [List.length_map, List.length_map] at h9
end Go.Proofs.YtjdcpnaocjddoaaGreatDoor
