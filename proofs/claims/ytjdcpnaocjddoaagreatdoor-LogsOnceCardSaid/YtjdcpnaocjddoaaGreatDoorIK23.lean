/-
  Part 23 of the proof: contracts and plain laws. Conditions: none.
-/
import Derived.Test.YtjdcpnaocjddoaaGreatDoorIK22
namespace Go.Proofs.YtjdcpnaocjddoaaGreatDoor
open Go Go.RowKit Go.Proofs.Tryz
end Go.Proofs.YtjdcpnaocjddoaaGreatDoor
namespace Go.Proofs.YtjdcpnaocjddoaaGreatDoor
open Go Go.RowKit Go.Proofs.Tryz
/-- the number that a word adds -/
def addR (k : Nat) (w : List UInt8) : Int := if k = 2 then digV 6 0 w else stR w
def SgT (k : Nat) (w : List UInt8) (sg : Int) (tx : List UInt8) : Prop := (k ≤ 2 → sg = 1 ∧ tx = w) ∧ (2 < k → sg * digV 6 0 tx = stR w) ∧ tx.length ≤ w.length
theorem SgT.small {k : Nat} {w : List UInt8} (h : ¬ 2 < k) : SgT k w 1 w := ⟨fun _ => ⟨rfl, rfl⟩, fun q => absurd q h, Nat.le_refl _⟩
theorem SgT.add {k : Nat} {w : List UInt8} {sg : Int} {tx : List UInt8} (h : SgT k w sg tx) (hk : 2 ≤ k) : sg * digV 6 0 tx = addR k w := by
  unfold addR
  by_cases q : k = 2
  · obtain ⟨e1, e2⟩ := h.1 (by omega)
    rw [if_pos q, e1, e2, Int.one_mul]
  · rw [if_neg q]; exact h.2.1 (by omega)
end Go.Proofs.YtjdcpnaocjddoaaGreatDoor
namespace Go.Proofs.YtjdcpnaocjddoaaGreatDoor
open Go Go.RowKit Go.Proofs.Tryz
theorem GausM.slG {B : Nat} {W : World} {ys : List Gau} (h : GausM B W ys) : SlG W ys := fun z hz => by
  obtain ⟨h1, h2, h3⟩ := h z hz
  refine ⟨?_, h3.cap_le, h2⟩
  rw [h1]; exact h3.sl (fun _ => rfl)
theorem bare_atG {ys zs : List Gau} (h : ys.map Gau.bare = zs.map Gau.bare) {i : Nat} (hi : i < ys.length) : (nth ys i).st = (nth zs i).st ∧ (nth ys i).hr = (nth zs i).hr ∧ (nth ys i).s = (nth zs i).s := by
  have hl : ys.length = zs.length := by have h9 := congrArg List.length h; rwa [List.length_map, List.length_map] at h9
  have h1 := nth_bareG ys i hi
  have h2 := nth_bareG zs i (by omega)
  rw [h] at h1
  have e : (nth ys i).bare = (nth zs i).bare := h1.symm.trans h2
  unfold Gau.bare at e
  injection e with a1 a2 a3
  exact ⟨a1, a2, a3⟩
theorem aftO_bare (p : Option Gau) (y : Gau) : aftO (p.map Gau.bare) y.bare ↔ aftO p y := by cases p <;> exact Iff.rfl
theorem chkGa_bare : ∀ {ys zs : List Gau} {p q : Option Gau}, p.map Gau.bare = q.map Gau.bare → ys.map Gau.bare = zs.map Gau.bare → chkGa p ys = chkGa q zs
  | [], [], _, _, _, _ => rfl
  | [], _ :: _, _, _, _, h => by cases h
  | _ :: _, [], _, _, _, h => by cases h
  | y :: ys, z :: zs, p, q, hp, h => by
    have h := List.cons.inj (show y.bare :: ys.map Gau.bare = z.bare :: zs.map Gau.bare from h)
    have e : okGau y = okGau z := by rw [← okGau_bare y, h.1, okGau_bare]
    have ea : aftO p y ↔ aftO q z := (aftO_bare p y).symm.trans (by rw [hp, h.1]; exact aftO_bare q z)
    show (if okGau y = true then (if aftO p y then chkGa (some y) ys else 6) else 2) = (if okGau z = true then (if aftO q z then chkGa (some z) zs else 6) else 2)
    rw [e]
    by_cases hx : aftO p y
    · rw [if_pos hx, if_pos (ea.1 hx), chkGa_bare (p := some y) (q := some z) (congrArg some h.1) h.2]
    · rw [if_neg hx, if_neg (fun k => hx (ea.2 k))]
theorem flatG_bare : ∀ {ys zs : List Gau}, ys.map Gau.bare = zs.map Gau.bare → ys.flatMap gauP = zs.flatMap gauP
  | [], [], _ => rfl
  | [], _ :: _, h => by cases h
  | _ :: _, [], h => by cases h
  | y :: ys, z :: zs, h => by
    have h := List.cons.inj (show y.bare :: ys.map Gau.bare = z.bare :: zs.map Gau.bare from h)
    rw [List.flatMap_cons, List.flatMap_cons, flatG_bare h.2, ← gauP_bare y, h.1, gauP_bare]
theorem textG_bare {ys zs : List Gau} (h : ys.map Gau.bare = zs.map Gau.bare) : textG ys = textG zs := by
  have hl : ys.length = zs.length := by have h9 := congrArg List.length h; rwa [List.length_map, List.length_map] at h9
  unfold textG
  rw [hl, chkGa_bare (p := none) (q := none) rfl h, flatG_bare h]
set_option maxHeartbeats 4000000 in
theorem gcopy_c (l : List Gau) (al : Option Addr) (bl ol cl : Nat) (w0 : World) (hl : Sl encGau 3 w0 al bl ol l) (hll : l.length ≤ 1000000) (hss : SlG w0 l) (hpos : 0 < w0.heap.size) :
    CallsV Tryz.prog 43 [.slice al l.length cl] w0 (fun v w' => (∃ ys a9 g9 c9, v = .slice a9 (List.length ys) c9 ∧ ys.map Gau.bare = l.map Gau.bare ∧ Acc encGau 3 80 w0.heap.size w' a9 g9 c9 ys ∧ GausM w0.heap.size w' ys) ∧ Ext w0 w') := by
 refine f_n func43 ?_
 refine go ?_
 refine x_l fun bk3 w4 ebk3 sbk3 B5 u6 => ?_
 refine go ?_
 refine x_l2 (fun i => i = bk3 ∨ w4.heap.size ≤ i) [0] (fun (ys : List Gau) (q : (Option Addr × Nat × Nat)) => [(3, .slice q.1 ys.length q.2.2), (4, .int .i64 (ys.length : Int))]) (fun ys q w => (ys.length ≤ l.length) ∧ (Acc encGau 3 80 w0.heap.size w q.1 q.2.1 q.2.2 ys) ∧ (q.2.1 = bk3 ∨ w4.heap.size ≤ q.2.1) ∧ (GausM w0.heap.size w ys) ∧ (ys.map Gau.bare = (l.take ys.length).map Gau.bare)) (fun ys q => l.length - ys.length) ([]) (some ⟨bk3, 0, none⟩, bk3, 0) ⟨(Nat.zero_le _), (Acc.ofBlk (base := w0.heap.size) (xs := ([] : List Gau)) encGau 3 (fun _ => rfl) B5 (by omega) (by decide)), (.inl rfl), (GausM.nil _ _), rfl⟩ ?_
 rintro ys q w11 ⟨hyl, hA, hqW, hM, hcy⟩ u12 zu12 K10 hK10
 have E13 := Sc.mk (((Upd.refl (fun _ => False) w0).nx u6).next u12 (fun i hi h => by omega))
 have lt_q_2_1 := hA.lt
 have hMne := hM.ne hA
 refine go ?_
 refine q_p (fun g10 => ?_) fun g10 => ?_
 ·
  obtain ⟨hsx9, _, hxs9⟩ := hss _ (nth_mem (xs := l) (i := ys.length) (by omega))
  refine go ?_
  refine g_i ys.length (hl.keep E13.u (fun _ h => h)) (fun _ => ?_)
  refine go ?_
  refine x_n fun bk19 w20 ebk19 sbk19 B21 u22 => ?_
  refine x_s fun w24 sw24 B26 u25 => ?_
  refine go ?_
  refine x_c func77 rfl rfl (ints_c (nth l ys.length).s (nth l ys.length).ao (nth l ys.length).g (nth l ys.length).ob (nth l ys.length).cp _ (hsx9.keep ((E13.u.nx u22).next u25 (fun i hi h => by omega)) (fun _ h => h)) hxs9 (by omega)) ?_
  rintro _ w30 ⟨⟨ai, gi9, ci, rfl, haci⟩, u31⟩ zu31
  have D34 := (((hA.keep u22 (fun _ h => h)).keep u25 (fun hb => show ¬ (q.2.1 = bk19) by first | omega | assumption)).keep u31 (fun _ h => h))
  obtain ⟨gi, hac, hgiw⟩ := Acc.lowH (base' := w0.heap.size) haci (by omega) hpos
  have hgi : gi < w30.heap.size := hac.lt
  have hgq : w0.heap.size ≤ gi → gi ≠ q.2.1 := fun hb => (GausM.snoc (GausM.nil w0.heap.size _) (y := (⟨(nth l ys.length).st, (nth l ys.length).hr, (nth l ys.length).s, ai, gi, 0, ci⟩ : Gau)) rfl hxs9 hac).ne D34 (⟨(nth l ys.length).st, (nth l ys.length).hr, (nth l ys.length).s, ai, gi, 0, ci⟩ : Gau) (by simp) hb
  have lt_gi := hac.lt
  refine go ?_
  refine x_s fun w35 sw35 B37 u36 => ?_
  refine go ?_
  refine x_l fun bk39 w40 ebk39 sbk39 B41 u42 => ?_
  have D44 := ((D34.keep u36 (fun hb => show ¬ (q.2.1 = bk19) by first | omega | assumption)).keep u42 (fun _ h => h))
  refine t_append (z := .agg #[.int .i64 0, .int .i64 0, .slice none 0 0]) (bytes := 40) (k := 3) (base := w0.heap.size) (⟨(nth l ys.length).st, (nth l ys.length).hr, (nth l ys.length).s, ai, gi, 0, ci⟩ : Gau) underlying78 (by kernel_rfl) rfl (by decide) (fun _ => rfl) (by intro x; simp [encGau, Value.oneCell']) rfl rfl rfl rfl D44 B41 (by omega) (by omega) (by decide) (fun ao45 gb46 cp47 w48 A49 u50 gegb46 lngb46 => ?_)
  have zu50 := u50.size
  have lt_gb46 := A49.lt
  refine go ?_
  have D52 := (GausM.keep (GausM.keep (GausM.keep (GausM.keep (GausM.keep (GausM.keep hM u22 (fun _ _ _ h => h)) u25 (fun z hz hb => by have h9 := hMne z hz hb; have h8 := (hM z hz).2.2.lt; show ¬ (z.g = bk19); omega)) u31 (fun _ _ _ h => h)) u36 (fun z hz hb => by have h9 := hMne z hz hb; have h8 := (hM z hz).2.2.lt; show ¬ (z.g = bk19); omega)) u42 (fun _ _ _ h => h)) u50 (fun z hz hb => by have h9 := hMne z hz hb; have h8 := (hM z hz).2.2.lt; show ¬ ((z.g = q.2.1 ∧ w0.heap.size ≤ z.g)); omega))
  have D53 := (((hac.keep u36 (fun hb => show ¬ (gi = bk19) by first | omega | assumption)).keep u42 (fun _ h => h)).keep u50 (fun hb => show ¬ ((gi = q.2.1 ∧ w0.heap.size ≤ gi)) by first | omega | assumption))
  exact hK10 (ys ++ [(⟨(nth l ys.length).st, (nth l ys.length).hr, (nth l ys.length).s, ai, gi, 0, ci⟩ : Gau)]) (ao45, gb46, cp47) ⟨(by rw [List.length_append, List.length_singleton]; omega), A49, (show gb46 = bk3 ∨ w4.heap.size ≤ gb46 by omega), (GausM.snoc D52 rfl hxs9 D53), (by rw [List.length_append, List.map_append, hcy]; show _ = (l.take (ys.length + 1)).map Gau.bare; rw [take_nth (show ys.length < l.length by omega), List.map_append]; rfl)⟩ (hm := (by show l.length - (ys ++ [_]).length < l.length - ys.length; rw [List.length_append, List.length_singleton]; omega)) (hs := by exact ⟨rfl, (congrArg (fun z => some (Value.int .i64 z)) (by rw [List.length_append, List.length_singleton, Int.natCast_add]; rfl)), rfl, trivial⟩)
 rw [List.take_of_length_le (show l.length ≤ ys.length by omega)] at hcy
 refine go ?_
 refine f_1 results43 ?_
 exact ⟨⟨ys, _, _, _, rfl, hcy, hA, hM⟩, u_d⟩

theorem sameGa_c (ys zs : List Gau) (ay : Option Addr) (by_ oy cy : Nat) (az : Option Addr) (bz oz cz : Nat) (w0 : World) (hy : Sl encGau 3 w0 ay by_ oy ys) (hz : Sl encGau 3 w0 az bz oz zs) (hb : ys.map Gau.bare = zs.map Gau.bare) (hsy : SlG w0 ys) (hsz : SlG w0 zs) (hyn : ys.length ≤ 1000000) :
    CallsV Tryz.prog 48 [.slice ay ys.length cy, .slice az zs.length cz] w0 (fun v w' => v = .bool true ∧ Ext w0 w') := by
 have hyz : ys.length = zs.length := by have h9 := congrArg List.length hb; rwa [List.length_map, List.length_map] at h9
 refine f_n func48 ?_
 refine go ?_
 refine q_p (fun g10 => ?_) fun g10 => ?_
 ·
  omega
 refine go ?_
 refine x_l1 (fun _ => False) [0, 1] (fun (i : Nat) => [(5, .int .i64 (i : Int))]) (fun i w => (i ≤ ys.length)) (fun i => ys.length - i) 0 (Nat.zero_le _) ?_
 rintro i w7 hi u8 zu8 K6 hK6
 refine go ?_
 refine q_p (fun g14 => ?_) fun g14 => ?_
 ·
  obtain ⟨hn9, hr9, hs9⟩ := bare_atG hb (show i < ys.length by omega)
  have hbly := hy.lt (show 0 < ys.length by omega)
  have hblz := hz.lt (show 0 < zs.length by omega)
  refine go ?_
  refine c_drawnM follows (fun _ => False) (OTl [0, 2, 4, 6, 8, 10, 12, 14, 16, 18, 20, 22, 24, 26, 28, 30, 32, 34, 36, 38, 40, 42, 44, 46, 48, 50, 52, 54, 56, 58, 60, 62, 64, 66, 68, 71, 72, 74]) (by kernel_rfl) fun w14 u15 => ?_
  have zu15 := u15.size
  have E16 := Sc.mk (((Upd.refl (fun _ => False) w0).nx u8).nx u15)
  refine go ?_
  refine y_i i (hy.keep E16.u (fun _ h => h)) (fun _ => ?_)
  refine go ?_
  refine y_i i (hz.keep E16.u (fun _ h => h)) (fun _ => ?_)
  iterate 3 refine st1 ?_
  refine y_same 27 (v := .bool false) rfl (congrArg Value.bool (decide_eq_false (fun h => h hn9))) ?_
  refine go ?_
  refine y_i i (hy.keep E16.u (fun _ h => h)) (fun _ => ?_)
  refine go ?_
  refine y_i i (hz.keep E16.u (fun _ h => h)) (fun _ => ?_)
  iterate 3 refine st1 ?_
  refine y_same 39 (v := .bool false) rfl (congrArg Value.bool (decide_eq_false (fun h => h hr9))) ?_
  refine go ?_
  refine y_i i (hy.keep E16.u (fun _ h => h)) (fun _ => ?_)
  refine go ?_
  refine y_i i (hz.keep E16.u (fun _ h => h)) (fun _ => ?_)
  refine go ?_
  refine x_c func33 rfl rfl (eqI_d (nth ys i).s (nth zs i).s hs9 _ _ _ _ _ _ _ _ _ ((hsy _ (nth_mem (xs := ys) (i := i) (by omega))).1.keep E16.u (fun _ h => h)) ((hsz _ (nth_mem (xs := zs) (i := i) (by omega))).1.keep E16.u (fun _ h => h)) (hsy _ (nth_mem (xs := ys) (i := i) (by omega))).2.2) ?_
  rintro _ w24 ⟨rfl, u25⟩ zu25
  refine go ?_
  exact hK6 (i + 1) (by omega)
 refine go ?_
 refine f_1 results48 ?_
 exact ⟨rfl, u_d⟩

end Go.Proofs.YtjdcpnaocjddoaaGreatDoor
namespace Go.Proofs.YtjdcpnaocjddoaaGreatDoor
open Go Go.RowKit Go.Proofs.Tryz
end Go.Proofs.YtjdcpnaocjddoaaGreatDoor
namespace Go.Proofs.YtjdcpnaocjddoaaGreatDoor
open Go Go.RowKit
/-! ### bills and gauge lines are read as they were written -/
/-- a line of text, without its line feed -/
def lnP (t : List UInt8) : List UInt8 := t ++ [UInt8.ofNat (97 + weighP t 673 / 26).toNat, UInt8.ofNat (97 + weighP t 673 % 26).toNat]
theorem sealP_ln (t : List UInt8) : sealP t = lnP t ++ [10] := by unfold sealP lnP; simp only [List.append_assoc, List.cons_append, List.nil_append]
theorem lnP_len (t : List UInt8) : (lnP t).length = t.length + 2 := by unfold lnP; rw [List.length_append]; rfl
theorem letter_ne10 {n : Nat} (h : 97 ≤ n ∧ n ≤ 122) : (10 : UInt8) ≠ UInt8.ofNat n := fun e => by
  have h1 := congrArg UInt8.toNat e
  rw [UInt8.toNat_ofNat', Nat.mod_eq_of_lt (by omega)] at h1
  have h2 : (10 : UInt8).toNat = 10 := rfl
  omega
theorem lnP_free {t : List UInt8} (h : (10 : UInt8) ∉ t) : (10 : UInt8) ∉ lnP t := fun h9 => by
  have hw := weighP_l t
  unfold lnP at h9
  rcases List.mem_append.1 h9 with h9 | h9
  · exact h h9
  rcases List.mem_cons.1 h9 with h9 | h9
  · exact letter_ne10 hw.1 h9
  · exact letter_ne10 hw.2 (List.mem_singleton.1 h9)
theorem chkd_ln {t : List UInt8} (h : t.length ≤ 597) : chkdP (lnP (t ++ [32])) = 0 := by
  have hl := lnP_len (t ++ [32])
  rw [List.length_append] at hl
  have h1 : ([32] : List UInt8).length = 1 := rfl
  have e1 : (lnP (t ++ [32])).length - 3 = t.length := by omega
  have e2 : lnP (t ++ [32]) = t ++ (32 :: [UInt8.ofNat (97 + weighP (t ++ [32]) 673 / 26).toNat, UInt8.ofNat (97 + weighP (t ++ [32]) 673 % 26).toNat]) := by
    unfold lnP; rw [List.append_assoc]; rfl
  have e3 : nth (lnP (t ++ [32])) t.length = 32 := by rw [e2, nth_ap0]; rfl
  have e4 : (lnP (t ++ [32])).take t.length = t := by rw [e2, List.take_left' rfl]
  unfold chkdP
  rw [e1, e3, e4, if_neg (fun q => q.elim (fun q => q (by omega)) (fun q => q rfl)), if_neg (by rw [sealP_ln]; exact fun h => h rfl)]
theorem pcs_line {c : UInt8} {a b : List UInt8} (h : c ∉ a) : pcs c (a ++ [c] ++ b) = a :: pcs c b := by
  rw [pcs_cut c a.length (a ++ [c] ++ b) (by simp) (fun k hk e9 => h (by
      have e8 : nth (a ++ [c] ++ b) k = nth a k := by rw [List.append_assoc]; exact nth_apL hk
      rw [e8] at e9; exact e9 ▸ nth_mem hk)) (by rw [List.append_assoc, nth_ap0]; rfl)]
  rw [List.append_assoc, List.take_left', show a.length + 1 = (a ++ [c]).length by simp, ← List.append_assoc, List.drop_left']
  · rfl
  · rfl
theorem pcs_flat : ∀ (ls : List (List UInt8)), (∀ s ∈ ls, (10 : UInt8) ∉ s) → pcs 10 (ls.flatMap fun s => s ++ [10]) = ls ++ [[]]
  | [], _ => rfl
  | s :: r, h => by
    rw [List.flatMap_cons, pcs_line (h s (List.mem_cons_self ..)), pcs_flat r fun t ht => h t (List.mem_cons_of_mem _ ht)]; rfl
theorem flat_end : ∀ (ls : List (List UInt8)), (ls.flatMap fun s => s ++ [(10 : UInt8)]) ≠ [] → nth (ls.flatMap fun s => s ++ [(10 : UInt8)]) ((ls.flatMap fun s => s ++ [(10 : UInt8)]).length - 1) = 10
  | [], h => absurd rfl h
  | s :: r, _ => by
    rw [List.flatMap_cons]
    by_cases hr : (r.flatMap fun s => s ++ [(10 : UInt8)]) = []
    · rw [hr, List.append_nil, List.length_append]
      show nth (s ++ [10]) (s.length + 1 - 1) = 10
      rw [Nat.add_sub_cancel, nth_ap0]; rfl
    · have ih := flat_end r hr
      have hp := List.length_pos_iff.2 hr
      rw [List.length_append]
      generalize (r.flatMap fun s => s ++ [(10 : UInt8)]) = R at hr ih hp
      have e : nth (s ++ [10] ++ R) ((s ++ [10]).length + R.length - 1) = nth R (R.length - 1) := by
        unfold nth
        rw [List.getD_eq_getElem?_getD, List.getElem?_append_right (by omega), show (s ++ [(10 : UInt8)]).length + R.length - 1 - (s ++ [(10 : UInt8)]).length = R.length - 1 by omega, ← List.getD_eq_getElem?_getD]
      rw [e, ih]
theorem flat_len (m : Nat) : ∀ (ls : List (List UInt8)), (∀ s ∈ ls, s.length ≤ m) → (ls.flatMap fun s => s ++ [(10 : UInt8)]).length ≤ ls.length * (m + 1)
  | [], _ => Nat.zero_le _
  | s :: r, h => by
    have h1 := h s (List.mem_cons_self ..)
    have h2 := flat_len m r fun t ht => h t (List.mem_cons_of_mem _ ht)
    have h3 : ([(10 : UInt8)] : List UInt8).length = 1 := rfl
    rw [List.flatMap_cons, List.length_append, List.length_append, h3, List.length_cons, Nat.succ_mul]
    omega
theorem linesR_flat {ls : List (List UInt8)} (h : ∀ s ∈ ls, (10 : UInt8) ∉ s) (h6 : ∀ s ∈ ls, s.length ≤ 599) (hn : ls.length ≤ 200) : linesR (ls.flatMap fun s => s ++ [10]) = (ls, 0) := by
  have hl := flat_len 599 ls h6
  have hP : linesP (ls.flatMap fun s => s ++ [10]) = ls := by unfold linesP; rw [pcs_flat ls h, List.dropLast_concat]
  unfold linesR
  rw [hP, if_neg (by omega), if_neg (fun q => q.2 (flat_end ls q.1)), if_neg (by omega)]
theorem join_free {c d : UInt8} (hc : c ≠ d) : ∀ l : List (List UInt8), (∀ w ∈ l, c ∉ w) → c ∉ Lib.join l [d]
  | [], _ => fun h9 => by cases h9
  | [y], hy => by rw [Lib.join_one]; exact hy y (List.mem_cons_self ..)
  | y :: z :: l, hy => by
    have ih := join_free hc (z :: l) fun w hw => hy w (List.mem_cons_of_mem _ hw)
    rw [join_two]
    intro h9
    rcases List.mem_append.1 h9 with h9 | h9
    · rcases List.mem_append.1 h9 with h9 | h9
      · exact hy y (List.mem_cons_self ..) h9
      · exact hc (List.mem_singleton.1 h9)
    · exact ih h9
theorem snoc_free {c d : UInt8} {l : List UInt8} (h : c ∉ l) (hc : c ≠ d) : c ∉ l ++ [d] := fun h9 => by
  rcases List.mem_append.1 h9 with h9 | h9
  · exact h h9
  · exact hc (List.mem_singleton.1 h9)
theorem itoa_free10 {n : Int} (h : 0 ≤ n) : (10 : UInt8) ∉ Lib.itoa n := by rw [itoa_dec h]; exact decD_free (by decide)
theorem itoa_len6 {n : Int} (h : 0 ≤ n ∧ n ≤ 100000) : (Lib.itoa n).length ≤ 6 := by rw [itoa_dec h.1]; exact decD_len 5 n.toNat (by omega)
/-! bills -/
def linB (x : Bil) : List UInt8 := lnP (Lib.join (wrdB x) [32] ++ [32])
theorem billP_ln (x : Bil) : billP x = linB x ++ [10] := sealP_ln (Lib.join (wrdB x) [32] ++ [32])
theorem wrdB_free10 {x : Bil} (h : okBill x = true) : ∀ w ∈ wrdB x, (10 : UInt8) ∉ w := by
  obtain ⟨h1, h2, h3, h4, ⟨h5, h6⟩, _, _⟩ := okBill_iff h
  have hs := sealG_rng (by decide) h1
  intro w hw
  unfold wrdB at hw
  rcases List.mem_cons.1 hw with rfl | hw
  · exact itoa_free10 (by omega)
  rcases List.mem_cons.1 hw with rfl | hw
  · exact itoa_free10 (by omega)
  rcases List.mem_cons.1 hw with rfl | hw
  · exact itoa_free10 (by omega)
  rcases List.mem_cons.1 hw with rfl | hw
  · intro h9
    rcases List.mem_append.1 h9 with h9 | h9
    · exact snoc_free (itoa_free10 (by omega)) (by decide) h9
    · exact itoa_free10 (by omega) h9
  · rw [List.mem_singleton.1 hw]
    refine join_free (by decide) _ fun w hw => ?_
    unfold sealsP at hw
    split at hw
    · rw [List.mem_singleton.1 hw]; decide
    · obtain ⟨n, hn, rfl⟩ := List.mem_map.1 hw
      exact itoa_free10 (hs n hn).1
theorem wrdB_len {x : Bil} (h : okBill x = true) : (Lib.join (wrdB x) [32]).length ≤ 355 := by
  obtain ⟨h1, h2, h3, h4, ⟨h5, h6⟩, _, h8⟩ := okBill_iff h
  have hs := sealG_mem (by decide) h1
  have h9 := join_len [32] 70 (wrdB x) fun w hw => by
    unfold wrdB at hw
    rcases List.mem_cons.1 hw with rfl | hw
    · exact Nat.le_trans (itoa_len6 (by omega)) (by decide)
    rcases List.mem_cons.1 hw with rfl | hw
    · exact Nat.le_trans (itoa_len6 (by omega)) (by decide)
    rcases List.mem_cons.1 hw with rfl | hw
    · exact Nat.le_trans (itoa_len6 (by omega)) (by decide)
    rcases List.mem_cons.1 hw with rfl | hw
    · have a := itoa_len6 h5
      have b := itoa_len6 h6
      rw [List.length_append, List.length_append]
      have c : ([62] : List UInt8).length = 1 := rfl
      omega
    · rw [List.mem_singleton.1 hw]
      have hq : (sealsP x.s).length ≤ 10 ∧ ∀ y ∈ sealsP x.s, y.length ≤ 6 := by
        unfold sealsP
        split
        · exact ⟨by simp, fun y hy => by rw [List.mem_singleton.1 hy]; decide⟩
        · refine ⟨by rw [List.length_map]; omega, fun y hy => ?_⟩
          obtain ⟨n, hn, rfl⟩ := List.mem_map.1 hy
          have := hs n hn
          exact itoa_len6 (by omega)
      have hj := join_len [44] 6 _ hq.2
      have h7 : ([44] : List UInt8).length = 1 := rfl
      have h6 : (sealsP x.s).length * (6 + 1) ≤ 10 * 7 := Nat.mul_le_mul_right _ hq.1
      rw [h7] at hj
      omega
  have h7 : (wrdB x).length = 5 := rfl
  have h6 : ([32] : List UInt8).length = 1 := rfl
  rw [h7, h6] at h9
  exact h9
theorem linB_free {x : Bil} (h : okBill x = true) : (10 : UInt8) ∉ linB x := lnP_free (snoc_free (join_free (by decide) _ (wrdB_free10 h)) (by decide))
theorem linB_len {x : Bil} (h : okBill x = true) : (linB x).length ≤ 599 := by
  have h1 := wrdB_len h
  unfold linB
  rw [lnP_len, List.length_append]
  have h6 : ([32] : List UInt8).length = 1 := rfl
  omega
theorem lineB_lin {x : Bil} (h : okBill x = true) : lineB parL (linB x) = (x.bare, 0) := by
  have h1 := wrdB_len h
  have hp := parL_line h (billP_ln x)
  unfold lineB
  rw [show chkdP (linB x) = 0 from chkd_ln (by omega), if_neg (fun q => q rfl), hp, if_pos ⟨by rw [okBill_bare]; exact h, by rw [billP_bare]; exact billP_ln x⟩]
theorem chkB_mem : ∀ {l : List Bil} {m : Int}, chkB m l = 0 → ∀ x ∈ l, okBill x = true
  | [], _, _, _, h => by cases h
  | x :: r, m, h, y, hy => by
    have h : (if okBill x = true then (if m < x.n then chkB x.n r else 6) else 2) = 0 := h
    by_cases h1 : okBill x = true
    · rw [if_pos h1] at h
      by_cases h2 : m < x.n
      · rw [if_pos h2] at h
        rcases List.mem_cons.1 hy with rfl | hy
        · exact h1
        · exact chkB_mem h y hy
      · rw [if_neg h2] at h; cases h
    · rw [if_neg h1] at h; cases h
theorem goB_lin : ∀ (l : List Bil) (m : Int) (acc : List Bil), chkB m l = 0 → (0 < acc.length → (nth acc (acc.length - 1)).n = m) → goB (lineB parL) acc (l.map linB) = (acc ++ l.map Bil.bare, 0, 0)
  | [], m, acc, _, _ => by
    show (acc, (0 : Int), (0 : Int)) = _
    rw [List.map_nil, List.append_nil]
  | x :: r, m, acc, h, ha => by
    have h : (if okBill x = true then (if m < x.n then chkB x.n r else 6) else 2) = 0 := h
    by_cases h1 : okBill x = true
    · rw [if_pos h1] at h
      by_cases h2 : m < x.n
      · rw [if_pos h2] at h
        have hL := lineB_lin h1
        rw [List.map_cons, goB_next (by rw [hL]) (fun q => q.2 (by rw [ha q.1, hL]; exact h2)), hL]
        rw [goB_lin r x.n (acc ++ [x.bare]) h (fun _ => by rw [List.length_append]; show (nth (acc ++ [x.bare]) (acc.length + 1 - 1)).n = _; rw [Nat.add_sub_cancel, nth_ap0]; rfl), List.append_assoc]; rfl
      · rw [if_neg h2] at h; cases h
    · rw [if_neg h1] at h; cases h
theorem flatB (l : List Bil) : l.flatMap billP = (l.map linB).flatMap fun s => s ++ [10] := by
  rw [List.flatMap_map]
  exact congrArg (fun f => List.flatMap f l) (funext billP_ln)
/-- bills are read as they were written -/
theorem readB_text {l : List Bil} (hn : l.length ≤ 200) (h : (textP l).2 = 0) : readB (lineB parL) (textP l).1 = (l.map Bil.bare, 0, 0) := by
  have h0 : chkB 0 l = 0 := by
    unfold textP at h
    rw [if_neg (by omega)] at h
    by_cases q : chkB 0 l = 0
    · exact q
    · rw [if_neg q] at h; exact h
  have hm := chkB_mem h0
  have e : (textP l).1 = (l.map linB).flatMap fun s => s ++ [10] := by
    unfold textP
    rw [if_neg (by omega), if_pos h0]; exact flatB l
  have hl : linesR ((l.map linB).flatMap fun s => s ++ [10]) = (l.map linB, 0) := linesR_flat (fun s hs => by
    obtain ⟨x, hx, rfl⟩ := List.mem_map.1 hs; exact linB_free (hm x hx)) (fun s hs => by
    obtain ⟨x, hx, rfl⟩ := List.mem_map.1 hs; exact linB_len (hm x hx)) (by rw [List.length_map]; exact hn)
  unfold readB
  rw [e, hl, if_neg (fun q => q rfl), goB_lin l 0 [] h0 (fun q => absurd q (Nat.lt_irrefl 0))]; rfl
theorem textP_len {l : List Bil} (hn : l.length ≤ 200) : (textP l).1.length ≤ 120000 := by
  unfold textP
  rw [if_neg (by omega)]
  split
  · rename_i h0
    have hm := chkB_mem h0
    rw [flatB]
    have := flat_len 599 (l.map linB) (fun s hs => by obtain ⟨x, hx, rfl⟩ := List.mem_map.1 hs; exact linB_len (hm x hx))
    rw [List.length_map] at this
    have h2 : l.length * (599 + 1) ≤ 200 * 600 := Nat.mul_le_mul_right _ hn
    exact Nat.le_trans this h2
  · exact Nat.zero_le _
/-! gauge lines -/
def linG (x : Gau) : List UInt8 := lnP (Lib.join (wrdG x) [32] ++ [32])
theorem gauP_ln (x : Gau) : gauP x = linG x ++ [10] := sealP_ln (Lib.join (wrdG x) [32] ++ [32])
theorem dW_free10 (d : Int) : (10 : UInt8) ∉ dW d := by
  unfold dW
  by_cases q : d < 0
  · rw [if_pos q, itoa_minus q]
    intro h
    rcases List.mem_cons.1 h with h | h
    · exact absurd h (by decide)
    · exact decD_free (by decide) h
  · rw [if_neg q, itoa_dec (by omega)]
    intro h
    rcases List.mem_cons.1 h with h | h
    · exact absurd h (by decide)
    · exact decD_free (by decide) h
theorem difG_free10 : ∀ (r : List Int) (a : Int), ∀ w ∈ difG a r, (10 : UInt8) ∉ w
  | [], _, w, h => by cases h
  | b :: r, a, w, h => by
    rcases List.mem_cons.1 (show w ∈ dW (b - a) :: difG b r from h) with h | h
    · rw [h]; exact dW_free10 _
    · exact difG_free10 r b w h
theorem wrdG_free10 {x : Gau} (h : okGau x = true) : ∀ w ∈ wrdG x, (10 : UInt8) ∉ w := by
  obtain ⟨h1, h2, ⟨h3, h4⟩, h5⟩ := okGau_iff h
  have h0 := h5 _ (nth_mem (xs := x.s) (i := 0) (by omega))
  intro w hw
  unfold wrdG at hw
  rcases List.mem_append.1 hw with hw | hw
  · rcases List.mem_cons.1 hw with hw | hw
    · rw [hw]; exact itoa_free10 h1.1
    rcases List.mem_cons.1 hw with hw | hw
    · rw [hw]; exact itoa_free10 h2.1
    · rw [List.mem_singleton.1 hw]; exact itoa_free10 h0.1
  · exact difG_free10 _ _ w hw
theorem linG_free {x : Gau} (h : okGau x = true) : (10 : UInt8) ∉ linG x := lnP_free (snoc_free (join_free (by decide) _ (wrdG_free10 h)) (by decide))
theorem linG_len {x : Gau} (h : okGau x = true) : (linG x).length ≤ 599 := by
  have h1 := (wrdG_len h).2
  unfold linG
  rw [lnP_len, List.length_append]
  have h6 : ([32] : List UInt8).length = 1 := rfl
  omega
theorem lineG_lin {x : Gau} (h : okGau x = true) : lineG parGL (linG x) = (x.bare, 0) := by
  have h1 := (wrdG_len h).2
  have hp := parGL_line h (gauP_ln x)
  unfold lineG
  rw [show chkdP (linG x) = 0 from chkd_ln (by omega), if_neg (fun q => q rfl), hp, if_pos ⟨by rw [okGau_bare]; exact h, by rw [gauP_bare]; exact gauP_ln x⟩]
theorem chkGa_mem : ∀ {l : List Gau} {m : Option Gau}, chkGa m l = 0 → ∀ x ∈ l, okGau x = true
  | [], _, _, _, h => by cases h
  | x :: r, m, h, y, hy => by
    have h : (if okGau x = true then (if aftO m x then chkGa (some x) r else 6) else 2) = 0 := h
    by_cases h1 : okGau x = true
    · rw [if_pos h1] at h
      by_cases h2 : aftO m x
      · rw [if_pos h2] at h
        rcases List.mem_cons.1 hy with rfl | hy
        · exact h1
        · exact chkGa_mem h y hy
      · rw [if_neg h2] at h; cases h
    · rw [if_neg h1] at h; cases h
theorem goG_lin : ∀ (l : List Gau) (m : Option Gau) (acc : List Gau), chkGa m l = 0 → (0 < acc.length → ∃ q : Gau, m = some q ∧ nth acc (acc.length - 1) = q.bare) → goG (lineG parGL) acc (l.map linG) = (acc ++ l.map Gau.bare, 0, 0)
  | [], m, acc, _, _ => by
    show (acc, (0 : Int), (0 : Int)) = _
    rw [List.map_nil, List.append_nil]
  | x :: r, m, acc, h, ha => by
    have h : (if okGau x = true then (if aftO m x then chkGa (some x) r else 6) else 2) = 0 := h
    by_cases h1 : okGau x = true
    · rw [if_pos h1] at h
      by_cases h2 : aftO m x
      · rw [if_pos h2] at h
        have hL := lineG_lin h1
        rw [List.map_cons, goG_next (by rw [hL]) (fun q => q.2 (by
          obtain ⟨p, e1, e2⟩ := ha q.1
          rw [e2, hL]
          rw [e1] at h2; exact h2)), hL]
        rw [goG_lin r (some x) (acc ++ [x.bare]) h (fun _ => ⟨x, rfl, by rw [List.length_append]; show nth (acc ++ [x.bare]) (acc.length + 1 - 1) = _; rw [Nat.add_sub_cancel, nth_ap0]; rfl⟩), List.append_assoc]; rfl
      · rw [if_neg h2] at h; cases h
    · rw [if_neg h1] at h; cases h
theorem flatGa (l : List Gau) : l.flatMap gauP = (l.map linG).flatMap fun s => s ++ [10] := by
  rw [List.flatMap_map]
  exact congrArg (fun f => List.flatMap f l) (funext gauP_ln)
/-- gauge files are read as they were written -/
theorem readG_text {l : List Gau} (hn : l.length ≤ 200) (h : (textG l).2 = 0) : readG (lineG parGL) (textG l).1 = (l.map Gau.bare, 0, 0) := by
  have h0 : chkGa none l = 0 := by
    unfold textG at h
    rw [if_neg (by omega)] at h
    by_cases q : chkGa none l = 0
    · exact q
    · rw [if_neg q] at h; exact h
  have hm := chkGa_mem h0
  have e : (textG l).1 = (l.map linG).flatMap fun s => s ++ [10] := by
    unfold textG
    rw [if_neg (by omega), if_pos h0]; exact flatGa l
  have hl : linesR ((l.map linG).flatMap fun s => s ++ [10]) = (l.map linG, 0) := linesR_flat (fun s hs => by
    obtain ⟨x, hx, rfl⟩ := List.mem_map.1 hs; exact linG_free (hm x hx)) (fun s hs => by
    obtain ⟨x, hx, rfl⟩ := List.mem_map.1 hs; exact linG_len (hm x hx)) (by rw [List.length_map]; exact hn)
  unfold readG
  rw [e, hl, if_neg (fun q => q rfl), goG_lin l none [] h0 (fun q => absurd q (Nat.lt_irrefl 0))]; rfl
theorem textG_len {l : List Gau} (hn : l.length ≤ 200) : (textG l).1.length ≤ 120000 := by
  unfold textG
  rw [if_neg (by omega)]
  split
  · rename_i h0
    have hm := chkGa_mem h0
    rw [flatGa]
    have := flat_len 599 (l.map linG) (fun s hs => by obtain ⟨x, hx, rfl⟩ := List.mem_map.1 hs; exact linG_len (hm x hx))
    rw [List.length_map] at this
    have h2 : l.length * (599 + 1) ≤ 200 * 600 := Nat.mul_le_mul_right _ hn
    exact Nat.le_trans this h2
  · exact Nat.zero_le _
theorem textP_nil {l : List Bil} (h : (textP l).2 ≠ 0) : (textP l).1 = [] := by
  unfold textP at h ⊢
  split
  · rfl
  · rename_i q
    rw [if_neg q] at h
    split
    · rename_i q2; rw [if_pos q2] at h; exact absurd rfl h
    · rfl
theorem textG_nil {l : List Gau} (h : (textG l).2 ≠ 0) : (textG l).1 = [] := by
  unfold textG at h ⊢
  split
  · rfl
  · rename_i q
    rw [if_neg q] at h
    split
    · rename_i q2; rw [if_pos q2] at h; exact absurd rfl h
    · rfl

end Go.Proofs.YtjdcpnaocjddoaaGreatDoor
namespace Go.Proofs.YtjdcpnaocjddoaaGreatDoor
open Go Go.RowKit Go.Proofs.Tryz
theorem own71 : Own Tryz.prog 71 := ⟨Tryz.f71, func71, by kernel_rfl, by kernel_rfl⟩
theorem own72 : Own Tryz.prog 72 := ⟨Tryz.f72, func72, by kernel_rfl, by kernel_rfl⟩

theorem scode_c (s : Scr) (bs : Nat) (w0 : World) (hS : Blk w0 bs 133 [.string (strB s.r), .bool s.b]) (hl : s.r.length ≤ 1000000) :
    CallsV Tryz.prog 71 [.pointer (some ⟨bs, 0, none⟩)] w0 (fun v w' => v = .int .i64 (cdV s) ∧ Blk w' bs 133 [.string (strB (cdS s).r), .bool (cdS s).b] ∧ Upd (fun i => i = bs) w0 w') := by
 have lt_bs := hS.lt
 refine f_n func71 ?_
 refine go ?_
 refine x_c func26 rfl rfl (Decode_c s.r _ (by omega)) ?_
 rintro _ w4 ⟨rfl, u5⟩ zu5
 refine go ?_
 refine q_p (fun g16 => ?_) fun g16 => ?_
 ·
  have hdz : ¬ (decP s.r).2.2 = 0 := by omega
  have hcs : cdS s = ⟨s.r, true⟩ := by unfold cdS; rw [if_neg hdz]
  have hcv : cdV s = 0 := by unfold cdV; rw [if_neg hdz]
  refine go ?_
  refine x_s fun w11 sw11 B13 u12 => ?_
  refine go ?_
  refine f_1 results71 ?_
  rw [hcs, hcv]
  exact ⟨rfl, B13, u_d⟩
 have hdz : (decP s.r).2.2 = 0 := by omega
 have hdo := decP_ok hdz
 have hcs : cdS s = ⟨s.r.drop (decP s.r).2.1.toNat, s.b⟩ := by unfold cdS; rw [if_pos hdz]
 have hcv : cdV s = (decP s.r).1 := by unfold cdV; rw [if_pos hdz]
 refine go ?_
 refine t_subS ((decP s.r).2.1.toNat) s.r.length underlying9 rfl rfl rfl (.inl ⟨rfl, rfl, by first | rfl | omega⟩) (.inr ⟨rfl, rfl⟩) (k' := .i64) (n := 0) (x2 := .tmp 0) (by omega) (by omega) (t_same 26 (v := .string (strB (s.r.drop (decP s.r).2.1.toNat))) rfl (congrArg (fun z => Value.string (strB z)) (List.take_of_length_le (by rw [List.length_drop]; omega))) ?_)
 refine go ?_
 refine x_s fun w17 sw17 B19 u18 => ?_
 refine go ?_
 refine f_1 results71 ?_
 rw [hcs, hcv]
 exact ⟨rfl, B19, u_d⟩

set_option maxHeartbeats 4000000 in
theorem sentry_c (s : Scr) (m : Int) (bs : Nat) (w0 : World) (hS : Blk w0 bs 133 [.string (strB s.r), .bool s.b]) (hl : s.r.length ≤ 1000000) (hbt : bitL s.r) (hm : 0 ≤ m ∧ m ≤ 1000000000000000) :
    CallsV Tryz.prog 72 [.pointer (some ⟨bs, 0, none⟩), .int .i64 m] w0 (fun v w' => v = .agg #[.int .i64 (entV s m).m, .int .i64 (entV s m).k, .int .i64 (entV s m).h, .int .i64 (entV s m).p, .int .i64 (entV s m).b, .int .i64 (entV s m).t] ∧ Blk w' bs 133 [.string (strB (entS s).r), .bool (entS s).b] ∧ Upd (fun i => i = bs) w0 w') := by
 have lt_bs := hS.lt
 obtain ⟨hm0, hm1⟩ := hm
 refine f_n func72 ?_
 refine go ?_
 refine x_n fun bk2 w3 ebk2 sbk2 B4 u5 => ?_
 refine go ?_
 refine t_lenS underlying9 rfl rfl rfl rfl ?_
 refine go ?_
 refine q_p (fun g10 => ?_) fun g10 => ?_
 ·
  refine go ?_
  refine x_s fun w10 sw10 B12 u11 => ?_
  refine go ?_
  refine x_s fun w15 sw15 B17 u16 => ?_
  refine go ?_
  refine f_ret1 (v := .agg #[.int .i64 0, .int .i64 0, .int .i64 0, .int .i64 0, .int .i64 0, .int .i64 0]) results72 ⟨_, _, rfl, run_loadVarN (vs := [.int .i64 0, .int .i64 0, .int .i64 0, .int .i64 0, .int .i64 0, .int .i64 0]) isAgg43 sizeOf43 rfl (B17.at.sub 0 6)⟩ ?_
  have B19 := (B12.keep u16 (by omega))
  have e0 : s.r.length < 2 := by omega
  have e1 : entV s m = ⟨0, 0, 0, 0, 0, 0⟩ := by unfold entV; rw [if_pos e0]
  have e2 : entS s = ⟨s.r, true⟩ := by unfold entS; rw [if_pos e0]
  rw [e1, e2]
  exact ⟨rfl, B19, u_d⟩
 have hb0 := bit_nth hbt (show 0 < s.r.length by omega)
 have hb1 := bit_nth hbt (show 1 < s.r.length by omega)
 unfold d48 at hb0 hb1
 have hkn : knd s = 1 + 2 * (((nth s.r 0).toNat : Int) - 48) + (((nth s.r 1).toNat : Int) - 48) := rfl
 have hl2 : (s2_ s).r.length + 2 = s.r.length := by show (s.r.drop 2).length + 2 = _; rw [List.length_drop]; omega
 refine go ?_
 refine c_drawnM follows (fun i => i = bk2) (OTl [0, 2, 4, 6, 8, 10, 12, 14, 16, 18, 20, 22, 24, 26, 28, 30, 32, 34, 37]) (by kernel_rfl) fun w21 u22 => ?_
 have zu22 := u22.size
 refine go ?_
 refine y_idxS 0 underlying9 rfl rfl rfl rfl rfl (by omega) (y_bo (Bo.ari8 rfl (by omega)) rfl rfl rfl rfl (y_conv underlying5 underlying41 rfl rfl rfl (IntWalk.i64_in _ (by omega)) (y_bo (Bo.shl1 (by omega)) rfl rfl rfl rfl ?_)))
 refine go ?_
 refine y_idxS 1 underlying9 rfl rfl rfl rfl rfl (by omega) (y_bo (Bo.ari8 rfl (by omega)) rfl rfl rfl rfl (y_conv underlying5 underlying41 rfl rfl rfl (IntWalk.i64_in _ (by omega)) ?_))
 refine st1 ?_
 refine y_same 31 (v := .int .i64 (knd s)) rfl (congrArg (Value.int .i64) (by rw [hkn])) ?_
 refine go ?_
 refine x_s fun w24 sw24 B26 u25 => ?_
 refine go ?_
 refine t_subS 2 s.r.length underlying9 rfl rfl rfl (.inl ⟨rfl, rfl, by first | rfl | omega⟩) (.inr ⟨rfl, rfl⟩) (k' := .i64) (n := 0) (x2 := .tmp 0) (by omega) (by omega) (t_same 38 (v := .string (strB ((s2_ s).r))) rfl (congrArg (fun z => Value.string (strB z)) (List.take_of_length_le (by rw [List.length_drop]; omega))) ?_)
 refine go ?_
 refine x_s fun w29 sw29 B31 u30 => ?_
 refine go ?_
 refine t_call own71 rfl rfl rfl rfl (scode_c (s2_ s) bs _ B31 (by omega)) (fun v35 w36 r38 => ?_)
 obtain ⟨rfl, hSs34, u37⟩ := r38
 have zu37 := u37.size
 have hvs34 := cdV_r (s2_ s)
 have hls34 := cdS_r (s2_ s)
 refine go ?_
 refine t_call own71 rfl rfl rfl rfl (scode_c (cdS (s2_ s)) bs _ hSs34 (by omega)) (fun v41 w42 r44 => ?_)
 obtain ⟨rfl, hSs40, u43⟩ := r44
 have zu43 := u43.size
 have hvs40 := cdV_r (cdS (s2_ s))
 have hls40 := cdS_r (cdS (s2_ s))
 refine go ?_
 refine x_s fun w46 sw46 B48 u47 => ?_
 refine go ?_
 refine x_s fun w50 sw50 B52 u51 => ?_
 refine go ?_
 refine x_c func95 rfl rfl (isPlace_c (knd s) _) ?_
 rintro _ w57 ⟨rfl, u58⟩ zu58
 refine go ?_
 refine q_b (fun g52 => ?_) fun g52 => ?_
 ·
  refine go ?_
  have B62 := (((hSs40.keep u47 (by omega)).keep u51 (by omega)).kx u58)
  refine t_call own71 rfl rfl rfl rfl (scode_c (cdS (cdS (s2_ s))) bs _ B62 (by omega)) (fun v64 w65 r67 => ?_)
  obtain ⟨rfl, hSs63, u66⟩ := r67
  have zu66 := u66.size
  have hvs63 := cdV_r (cdS (cdS (s2_ s)))
  have hls63 := cdS_r (cdS (cdS (s2_ s)))
  refine go ?_
  refine x_s fun w69 sw69 B71 u70 => ?_
  refine go ?_
  refine x_s fun w74 sw74 B76 u75 => ?_
  refine go ?_
  refine f_ret1 (v := .agg #[.int .i64 (m + (cdV (s2_ s))), .int .i64 (knd s), .int .i64 (1 + (cdV (cdS (s2_ s)))), .int .i64 (cdV (cdS (cdS (s2_ s)))), .int .i64 0, .int .i64 0]) results72 ⟨_, _, rfl, run_loadVarN (vs := [.int .i64 (m + (cdV (s2_ s))), .int .i64 (knd s), .int .i64 (1 + (cdV (cdS (s2_ s)))), .int .i64 (cdV (cdS (cdS (s2_ s)))), .int .i64 0, .int .i64 0]) isAgg43 sizeOf43 rfl (B76.at.sub 0 6)⟩ ?_
  have B78 := ((hSs63.keep u70 (by omega)).keep u75 (by omega))
  have e0 : ¬ s.r.length < 2 := by omega
  have e1 : entV s m = ⟨m + cdV (s2_ s), knd s, 1 + cdV (cdS (s2_ s)), cdV (cdS (cdS (s2_ s))), 0, 0⟩ := by unfold entV; rw [if_neg e0, if_pos g52]
  have e2 : entS s = (cdS (cdS (cdS (s2_ s)))) := by unfold entS; rw [if_neg e0, if_pos g52]
  rw [e1, e2]
  exact ⟨rfl, B78, u_d⟩
 refine go ?_
 have B80 := (((hSs40.keep u47 (by omega)).keep u51 (by omega)).kx u58)
 refine t_call own71 rfl rfl rfl rfl (scode_c (cdS (cdS (s2_ s))) bs _ B80 (by omega)) (fun v82 w83 r85 => ?_)
 obtain ⟨rfl, hSs81, u84⟩ := r85
 have zu84 := u84.size
 have hvs81 := cdV_r (cdS (cdS (s2_ s)))
 have hls81 := cdS_r (cdS (cdS (s2_ s)))
 refine go ?_
 refine t_call own71 rfl rfl rfl rfl (scode_c (cdS (cdS (cdS (s2_ s)))) bs _ hSs81 (by omega)) (fun v88 w89 r91 => ?_)
 obtain ⟨rfl, hSs87, u90⟩ := r91
 have zu90 := u90.size
 have hvs87 := cdV_r (cdS (cdS (cdS (s2_ s))))
 have hls87 := cdS_r (cdS (cdS (cdS (s2_ s))))
 refine go ?_
 refine x_s fun w93 sw93 B95 u94 => ?_
 refine go ?_
 refine x_s fun w97 sw97 B99 u98 => ?_
 refine go ?_
 refine x_s fun w102 sw102 B104 u103 => ?_
 refine go ?_
 refine f_ret1 (v := .agg #[.int .i64 (m + (cdV (s2_ s))), .int .i64 (knd s), .int .i64 (1 + (cdV (cdS (s2_ s)))), .int .i64 0, .int .i64 (1 + (cdV (cdS (cdS (s2_ s))))), .int .i64 (1 + (cdV (cdS (cdS (cdS (s2_ s))))))]) results72 ⟨_, _, rfl, run_loadVarN (vs := [.int .i64 (m + (cdV (s2_ s))), .int .i64 (knd s), .int .i64 (1 + (cdV (cdS (s2_ s)))), .int .i64 0, .int .i64 (1 + (cdV (cdS (cdS (s2_ s))))), .int .i64 (1 + (cdV (cdS (cdS (cdS (s2_ s))))))]) isAgg43 sizeOf43 rfl (B104.at.sub 0 6)⟩ ?_
 have B106 := (((hSs87.keep u94 (by omega)).keep u98 (by omega)).keep u103 (by omega))
 have e0 : ¬ s.r.length < 2 := by omega
 have e1 : entV s m = ⟨m + cdV (s2_ s), knd s, 1 + cdV (cdS (s2_ s)), 0, 1 + cdV (cdS (cdS (s2_ s))), 1 + cdV (cdS (cdS (cdS (s2_ s))))⟩ := by unfold entV; rw [if_neg e0, if_neg (by rw [g52]; decide)]
 have e2 : entS s = (cdS (cdS (cdS (cdS (s2_ s))))) := by unfold entS; rw [if_neg e0, if_neg (by rw [g52]; decide)]
 rw [e1, e2]
 exact ⟨rfl, B106, u_d⟩

end Go.Proofs.YtjdcpnaocjddoaaGreatDoor
namespace Go.Proofs.YtjdcpnaocjddoaaGreatDoor
open Go Go.RowKit Go.Proofs.Tryz
set_option maxHeartbeats 4000000 in
theorem ReadLog_c (xs : List UInt8) (ab : Option Addr) (bb ob cb : Nat) (w0 : World) (hs : Sl encY 1 w0 ab bb ob xs) (hcb : xs.length ≤ cb) (hxl : xs.length ≤ 1000000) (hpos : 0 < w0.heap.size) :
    CallsV Tryz.prog 34 [.slice ab xs.length cb] w0 (fun v w' => (∃ a9 g9 c9, v = .tuple #[.slice a9 (List.length (readR xs).1) c9, .int .i64 (readR xs).2.1, .int .i64 (readR xs).2.2] ∧ Acc encEnt 6 43 w0.heap.size w' a9 g9 c9 (readR xs).1) ∧ Ext w0 w') := by
 refine f_n func34 ?_
 refine go ?_
 refine x_c func65 rfl rfl (open_c xs ab bb ob cb _ hs hcb (by omega) (by omega)) ?_
 rintro _ w4 ⟨⟨aO, gO, cO, rfl, hFO⟩, u5⟩ zu5
 have lt_gO := hFO.lt
 refine go ?_
 refine q_p (fun g16 => ?_) fun g16 => ?_
 ·
  refine go ?_
  refine f_ret3 (v1 := .slice none 0 0) (v2 := .int .i64 0) (v3 := .int .i64 (opE xs)) results34 rfl rfl rfl ?_
  have he : readR xs = ([], 0, opE xs) := by unfold readR; rw [if_pos g16]
  exact ⟨⟨none, 0, 0, by rw [he]; rfl, by rw [he]; exact (Acc.nil _ _ _ _ _ hpos (by omega))⟩, u_d⟩
 have hE0 : opE xs = 0 := by omega
 have hok := opE_ok hE0
 have hVl : (opP xs).length = xs.length / 32 := by unfold opP; rw [if_pos hE0, blksP_len]
 have hglO := hFO.lt
 refine go ?_
 refine x_l1 (fun _ => False) [5, 19] (fun (k : Nat) => [(2, .slice none 0 0), (20, .int .i64 (k : Int))]) (fun k w => (k ≤ (opP xs).length) ∧ (∀ i, i < k → badB (opP xs) i = false)) (fun k => (opP xs).length - k) 0 ⟨(Nat.zero_le _), (fun i h => absurd h (Nat.not_lt_zero _))⟩ ?_
 rintro k w14 ⟨hk, hgd⟩ u15 zu15 K13 hK13
 refine go ?_
 refine q_p (fun g21 => ?_) fun g21 => ?_
 ·
  refine go ?_
  have D22 := (hFO.keep u15 (fun _ h => h))
  refine g_i k (D22.sl encBk_len) (fun _ => ?_)
  refine go ?_
  refine x_c func66 rfl rfl (isSound_c gO (0 + k * 32) ((nth (opP xs) k).l) k _ (Bk.h _) ((D22.sl encBk_len).at_ k (by omega)) (by omega) (by omega)) ?_
  rintro _ w25 ⟨rfl, u26⟩ zu26
  refine go ?_
  refine q_p (fun g28 => ?_) fun g28 => ?_
  ·
   refine go ?_
   refine f_ret3 (v1 := .slice none 0 0) (v2 := .int .i64 (k : Int)) (v3 := .int .i64 121) results34 rfl rfl rfl ?_
   have hE1 : ¬ opE xs ≠ 0 := by omega
   obtain ⟨r9, hr9⟩ := badP_head (v := (opP xs)) (k := k) (by omega) (by unfold badB; rw [decide_eq_false g28]; rfl) hgd
   have he : readR xs = ([], (k : Int), 121) := by unfold readR; rw [if_neg hE1, hr9]
   exact ⟨⟨none, 0, 0, by rw [he]; rfl, by rw [he]; exact (Acc.nil _ _ _ _ _ hpos (by omega))⟩, u_d⟩
  refine go ?_
  exact hK13 (k + 1) ⟨(by omega), (fun i hi => by rcases Nat.lt_or_eq_of_le (Nat.le_of_lt_succ hi) with h | h; exact hgd i h; rw [h]; unfold badB; rw [decide_eq_true (Decidable.not_not.1 g28)]; rfl)⟩
 have hbn : badP (opP xs) = [] := badP_nil (fun i hi => hgd i (by omega))
 refine go ?_
 have D31 := (hFO.keep u15 (fun _ h => h))
 refine x_c func70 rfl rfl (tapeE_c (opP xs) aO gO 0 cO _ (D31.sl encBk_len) (by omega) (by omega)) ?_
 rintro _ w33 ⟨⟨T9, aT, gT, cT, rfl, hFT, hT9⟩, u34⟩ zu34
 have lt_gT := hFT.lt
 have htb := tapB_len (opP xs) (opP xs).length
 rw [← hT9] at htb
 obtain ⟨hTl, hTb⟩ := htb
 obtain ⟨s0, hs0⟩ : ∃ s : Scr, s = ⟨T9, false⟩ := ⟨_, rfl⟩
 have hp0 : parP T9 = parN (cdV s0 + 1).toNat (cdS s0) 0 [] := by rw [hs0]; rfl
 have hs0l : s0.r.length = T9.length := by rw [hs0]
 have hs0b : bitL s0.r := by rw [hs0]; exact hTb
 refine t_ofB underlying118 underlying5 underlying9 rfl rfl rfl (hFT.sl (fun _ => rfl)) rfl ?_
 refine go ?_
 refine x_b fun bk37 w38 ebk37 sbk37 B39 u40 => ?_
 refine go ?_
 have hB0 : Blk w38 bk37 133 [.string (strB s0.r), .bool s0.b] := by rw [hs0]; exact B39
 refine go ?_
 refine t_call own71 rfl rfl rfl rfl (scode_c s0 bk37 _ hB0 (by omega)) (fun v45 w46 r48 => ?_)
 obtain ⟨rfl, hSs44, u47⟩ := r48
 have zu47 := u47.size
 have hvs44 := cdV_r s0
 have hls44 := cdS_r s0
 refine st1 ?_
 refine t_same 38 (v := .int .i64 (((cdV s0 + 1).toNat : Nat) : Int)) rfl (congrArg (Value.int .i64) (by have h9 := cdV_r s0; omega)) ?_
 refine go ?_
 refine x_l5 (fun i => i = bk37 ∨ w46.heap.size ≤ i) [5, 7] (fun (n : Nat) (s : Scr) (m : Int) (E : List Ent) (q : (Option Addr × Nat × Nat)) => [(2, .slice q.1 E.length q.2.2), (8, .int .i64 m), (9, .int .i64 (n : Int))]) (fun n s m E q w => Blk w bk37 133 [.string (strB s.r), .bool s.b] ∧ (parP T9 = parN n s m E) ∧ (Acc encEnt 6 43 w0.heap.size w q.1 q.2.1 q.2.2 E) ∧ (q.2.1 = 0 ∨ w46.heap.size ≤ q.2.1) ∧ (bitL s.r) ∧ (2 * E.length + s.r.length ≤ T9.length + 2) ∧ (s.b = true ∨ 2 * E.length + s.r.length ≤ T9.length) ∧ (0 ≤ m ∧ m ≤ 1000000000 * (E.length : Int)) ∧ (n ≤ 1000000001)) (fun n s m E q => n) ((cdV s0 + 1).toNat) (cdS s0) 0 ([]) (none, 0, 0) ⟨hSs44, hp0, (Acc.nil _ _ _ _ _ hpos (by omega)), (.inl rfl), ((cdS_r s0).2.2 hs0b), (by have h9 := (cdS_r s0).1; simp only [List.length_nil]; omega), (.inr (by have h9 := (cdS_r s0).1; simp only [List.length_nil]; omega)), ⟨Int.le_refl 0, by decide⟩, (by have h9 := cdV_r s0; omega)⟩ ?_ (h0 := by exact ⟨rfl, rfl, (congrArg (fun z => some (Value.int .i64 z)) (by have h9 := cdV_r s0; omega)), rfl, rfl, trivial⟩)
 rintro n s m E q w51 ⟨I53, hpn, hA, hqW, hbt, hle, hle2, hm9, hn9⟩ u52 zu52 K50 hK50
 have lt_q_2_1 := hA.lt
 have hgl := hA.lt
 refine go ?_
 refine t_splitp 41 rfl (fun g41 => ?_) (fun g41 => ?_)
 ·
  refine go ?_
  refine q_b (fun g47 => ?_) fun g47 => ?_
  ·
   have hsb : s.b = false := by simpa using g47
   have hle3 : 2 * E.length + s.r.length ≤ T9.length := hle2.resolve_left (by rw [hsb]; decide)
   refine go ?_
   refine t_call own72 rfl rfl rfl rfl (sentry_c s m bk37 _ I53 (by omega) hbt (by omega)) (fun v60 w61 r63 => ?_)
   obtain ⟨rfl, hSs59, u62⟩ := r63
   have zu62 := u62.size
   have hes := entS_r s
   have hem := entV_m s m (by omega)
   refine x_l fun bk65 w66 ebk65 sbk65 B67 u68 => ?_
   have D70 := ((hA.keep u62 (fun hb => show ¬ (q.2.1 = bk37) by first | omega | assumption)).keep u68 (fun _ h => h))
   refine t_append (z := .agg #[.int .i64 0, .int .i64 0, .int .i64 0, .int .i64 0, .int .i64 0, .int .i64 0]) (bytes := 48) (k := 6) (base := w0.heap.size) (entV s m) underlying22 (by kernel_rfl) rfl (by decide) (fun _ => rfl) (by intro x; simp [encEnt, Value.oneCell']) rfl rfl rfl rfl D70 B67 (by omega) (by omega) (by decide) (fun ao71 gb72 cp73 w74 A75 u76 gegb72 lngb72 => ?_)
   have zu76 := u76.size
   have lt_gb72 := A75.lt
   refine go ?_
   refine g_i E.length (A75.sl (fun _ => rfl)) (fun _ => ?_) (hj := (by rw [List.length_append]; simp only [List.length_cons, List.length_nil]; omega))
   iterate 2 refine st1 ?_
   refine t_same 62 (v := .int .i64 ((entV s m).m)) rfl (congrArg (Value.int .i64) (by rw [nth_app_r (Nat.le_refl _), Nat.sub_self]; rfl)) ?_
   refine go ?_
   have hEl : (E ++ [entV s m]).length = E.length + 1 := by rw [List.length_append]; rfl
   have hn1 : n = (n - 1) + 1 := by omega
   have B79 := ((hSs59.kx u68).keep u76 (by omega))
   exact hK50 (n - 1) (entS s) ((entV s m).m) (E ++ [entV s m]) (ao71, gb72, cp73) ⟨B79, (by rw [hpn]; exact (congrArg (fun z => parN z s m E) hn1).trans (parN_step hsb)), A75, (show gb72 = 0 ∨ w46.heap.size ≤ gb72 by omega), (hes.2.2.2 hbt), (by rw [hEl]; omega), (by rw [hEl]; rcases Nat.lt_or_ge s.r.length 2 with h | h; exact .inl (hes.2.2.1 h); exact .inr (by have h9 := hes.2.1 h; omega)), (by rw [hEl]; omega), (by omega)⟩ (hs := by exact ⟨rfl, rfl, (congrArg (fun z => some (Value.int .i64 z)) (by omega)), rfl, rfl, trivial⟩)
  refine go ?_
  refine t_split 67 rfl (fun g67 => ?_) (fun g67 => ?_)
  ·
   refine go ?_
   refine f_ret3 (v1 := .slice none 0 0) (v2 := .int .i64 0) (v3 := .int .i64 4) results34 rfl rfl rfl ?_
   have hE1 : ¬ opE xs ≠ 0 := by omega
   have hpf : parP T9 = (E, s) := by rw [hpn]; first | (rw [show n = 0 by omega]; rfl) | exact parN_stop (by simpa using g47)
   rw [hT9] at hpf
   have he : readR xs = ([], 0, 4) := by unfold readR; rw [if_neg hE1, hbn]; show (if _ then _ else _) = _; rw [hpf, if_pos (.inl g67)]
   exact ⟨⟨none, 0, 0, by rw [he]; rfl, by rw [he]; exact (Acc.nil _ _ _ _ _ hpos (by omega))⟩, u_d⟩
  refine go ?_
  refine x_c func49 rfl rfl (checkEntries_c E q.1 q.2.1 0 q.2.2 _ (hA.sl (fun _ => rfl)) (by omega)) ?_
  rintro _ w85 ⟨rfl, u86⟩ zu86
  refine go ?_
  refine t_splitp 72 rfl (fun g72 => ?_) (fun g72 => ?_)
  ·
   refine go ?_
   refine f_ret3 (v1 := .slice none 0 0) (v2 := .int .i64 0) (v3 := .int .i64 4) results34 rfl rfl rfl ?_
   have hE1 : ¬ opE xs ≠ 0 := by omega
   have hpf : parP T9 = (E, s) := by rw [hpn]; first | (rw [show n = 0 by omega]; rfl) | exact parN_stop (by simpa using g47)
   rw [hT9] at hpf
   have he : readR xs = ([], 0, 4) := by unfold readR; rw [if_neg hE1, hbn]; show (if _ then _ else _) = _; rw [hpf, if_pos (.inr (.inl g72))]
   exact ⟨⟨none, 0, 0, by rw [he]; rfl, by rw [he]; exact (Acc.nil _ _ _ _ _ hpos (by omega))⟩, u_d⟩
  refine go ?_
  have D90 := (hA.keep u86 (fun _ h => h))
  refine x_c func50 rfl rfl (write_c E q.1 q.2.1 0 q.2.2 _ (D90.sl (fun _ => rfl)) (by omega)) ?_
  rintro _ w92 ⟨⟨aW, gW, cW, rfl, hFW⟩, u93⟩ zu93
  have lt_gW := hFW.lt
  have hwl := writeP_len (show chkE E = 0 by omega)
  refine go ?_
  have D96 := ((((((D31.keep u34 (fun _ h => h)).keep u40 (fun _ h => h)).keep u47 (fun hb => show ¬ (gO = bk37) by first | omega | assumption)).keep u52 (fun hb => show ¬ (gO = bk37 ∨ w46.heap.size ≤ gO) by first | omega | assumption)).keep u86 (fun _ h => h)).keep u93 (fun _ h => h))
  refine x_c func73 rfl rfl (eqBk_c (writeP E) (opP xs) aW gW 0 cW aO gO 0 cO _ (hFW.sl encBk_len) (D96.sl encBk_len) (by omega)) ?_
  rintro _ w98 ⟨rfl, u99⟩ zu99
  refine go ?_
  refine q_p (fun g78 => ?_) fun g78 => ?_
  ·
   refine go ?_
   refine f_ret3 (v1 := .slice none 0 0) (v2 := .int .i64 0) (v3 := .int .i64 4) results34 rfl rfl rfl ?_
   have hE1 : ¬ opE xs ≠ 0 := by omega
   have hpf : parP T9 = (E, s) := by rw [hpn]; first | (rw [show n = 0 by omega]; rfl) | exact parN_stop (by simpa using g47)
   rw [hT9] at hpf
   have he : readR xs = ([], 0, 4) := by unfold readR; rw [if_neg hE1, hbn]; show (if _ then _ else _) = _; rw [hpf, if_pos (.inr (.inr g78))]
   exact ⟨⟨none, 0, 0, by rw [he]; rfl, by rw [he]; exact (Acc.nil _ _ _ _ _ hpos (by omega))⟩, u_d⟩
  refine go ?_
  refine f_ret3 (v1 := .slice q.1 E.length q.2.2) (v2 := .int .i64 0) (v3 := .int .i64 0) results34 rfl rfl rfl ?_
  have D104 := ((D90.keep u93 (fun _ h => h)).keep u99 (fun _ h => h))
  have hE1 : ¬ opE xs ≠ 0 := by omega
  have hpf : parP T9 = (E, s) := by rw [hpn]; first | (rw [show n = 0 by omega]; rfl) | exact parN_stop (by simpa using g47)
  rw [hT9] at hpf
  have he : readR xs = (E, 0, 0) := by unfold readR; rw [if_neg hE1, hbn]; show (if _ then _ else _) = _; rw [hpf, if_neg (fun h => h.elim (fun h => by rw [h] at g67; cases g67) (fun h => h.elim (fun h => g72 h) (fun h => g78 h)))]
  exact ⟨⟨q.1, q.2.1, q.2.2, by rw [he], by rw [he]; exact D104⟩, u_d⟩
 refine go ?_
 refine t_split 67 rfl (fun g67 => ?_) (fun g67 => ?_)
 ·
  refine go ?_
  refine f_ret3 (v1 := .slice none 0 0) (v2 := .int .i64 0) (v3 := .int .i64 4) results34 rfl rfl rfl ?_
  have hE1 : ¬ opE xs ≠ 0 := by omega
  have hpf : parP T9 = (E, s) := by rw [hpn]; first | (rw [show n = 0 by omega]; rfl) | exact parN_stop (by simpa using g47)
  rw [hT9] at hpf
  have he : readR xs = ([], 0, 4) := by unfold readR; rw [if_neg hE1, hbn]; show (if _ then _ else _) = _; rw [hpf, if_pos (.inl g67)]
  exact ⟨⟨none, 0, 0, by rw [he]; rfl, by rw [he]; exact (Acc.nil _ _ _ _ _ hpos (by omega))⟩, u_d⟩
 refine go ?_
 refine x_c func49 rfl rfl (checkEntries_c E q.1 q.2.1 0 q.2.2 _ (hA.sl (fun _ => rfl)) (by omega)) ?_
 rintro _ w110 ⟨rfl, u111⟩ zu111
 refine go ?_
 refine t_splitp 72 rfl (fun g72 => ?_) (fun g72 => ?_)
 ·
  refine go ?_
  refine f_ret3 (v1 := .slice none 0 0) (v2 := .int .i64 0) (v3 := .int .i64 4) results34 rfl rfl rfl ?_
  have hE1 : ¬ opE xs ≠ 0 := by omega
  have hpf : parP T9 = (E, s) := by rw [hpn]; first | (rw [show n = 0 by omega]; rfl) | exact parN_stop (by simpa using g47)
  rw [hT9] at hpf
  have he : readR xs = ([], 0, 4) := by unfold readR; rw [if_neg hE1, hbn]; show (if _ then _ else _) = _; rw [hpf, if_pos (.inr (.inl g72))]
  exact ⟨⟨none, 0, 0, by rw [he]; rfl, by rw [he]; exact (Acc.nil _ _ _ _ _ hpos (by omega))⟩, u_d⟩
 refine go ?_
 have D115 := (hA.keep u111 (fun _ h => h))
 refine x_c func50 rfl rfl (write_c E q.1 q.2.1 0 q.2.2 _ (D115.sl (fun _ => rfl)) (by omega)) ?_
 rintro _ w117 ⟨⟨aW, gW, cW, rfl, hFW⟩, u118⟩ zu118
 have lt_gW := hFW.lt
 have hwl := writeP_len (show chkE E = 0 by omega)
 refine go ?_
 have D121 := ((((((D31.keep u34 (fun _ h => h)).keep u40 (fun _ h => h)).keep u47 (fun hb => show ¬ (gO = bk37) by first | omega | assumption)).keep u52 (fun hb => show ¬ (gO = bk37 ∨ w46.heap.size ≤ gO) by first | omega | assumption)).keep u111 (fun _ h => h)).keep u118 (fun _ h => h))
 refine x_c func73 rfl rfl (eqBk_c (writeP E) (opP xs) aW gW 0 cW aO gO 0 cO _ (hFW.sl encBk_len) (D121.sl encBk_len) (by omega)) ?_
 rintro _ w123 ⟨rfl, u124⟩ zu124
 refine go ?_
 refine q_p (fun g78 => ?_) fun g78 => ?_
 ·
  refine go ?_
  refine f_ret3 (v1 := .slice none 0 0) (v2 := .int .i64 0) (v3 := .int .i64 4) results34 rfl rfl rfl ?_
  have hE1 : ¬ opE xs ≠ 0 := by omega
  have hpf : parP T9 = (E, s) := by rw [hpn]; first | (rw [show n = 0 by omega]; rfl) | exact parN_stop (by simpa using g47)
  rw [hT9] at hpf
  have he : readR xs = ([], 0, 4) := by unfold readR; rw [if_neg hE1, hbn]; show (if _ then _ else _) = _; rw [hpf, if_pos (.inr (.inr g78))]
  exact ⟨⟨none, 0, 0, by rw [he]; rfl, by rw [he]; exact (Acc.nil _ _ _ _ _ hpos (by omega))⟩, u_d⟩
 refine go ?_
 refine f_ret3 (v1 := .slice q.1 E.length q.2.2) (v2 := .int .i64 0) (v3 := .int .i64 0) results34 rfl rfl rfl ?_
 have D129 := ((D115.keep u118 (fun _ h => h)).keep u124 (fun _ h => h))
 have hE1 : ¬ opE xs ≠ 0 := by omega
 have hpf : parP T9 = (E, s) := by rw [hpn]; first | (rw [show n = 0 by omega]; rfl) | exact parN_stop (by simpa using g47)
 rw [hT9] at hpf
 have he : readR xs = (E, 0, 0) := by unfold readR; rw [if_neg hE1, hbn]; show (if _ then _ else _) = _; rw [hpf, if_neg (fun h => h.elim (fun h => by rw [h] at g67; cases g67) (fun h => h.elim (fun h => g72 h) (fun h => g78 h)))]
 exact ⟨⟨q.1, q.2.1, q.2.2, by rw [he], by rw [he]; exact D129⟩, u_d⟩

end Go.Proofs.YtjdcpnaocjddoaaGreatDoor
