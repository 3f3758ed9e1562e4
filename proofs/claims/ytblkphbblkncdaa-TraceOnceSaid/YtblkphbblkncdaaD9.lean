/-
  From sack to sack: plain, the last shift and the rows. Conditions: none.
-/
import Derived.Test.YtblkphbblkncdaaD8
namespace Go.Proofs.Ytblkphbblkncdaa
open Go Go.RowKit
theorem sail_no {bs : List Bil} {hs : List Hld} {l : List Ev} {x : Ev} (h : sEr bs hs l = 0) (hl : l.length < 100) (hx : okEv x = true) {e : Int} (hc : chkP bs (hs.map Hld.cap) (sSt bs hs l) (lastM 0 l) x = e) (he : e ≠ 0) : sEr bs hs (l ++ [x]) = e ∧ sAt bs hs (l ++ [x]) = (l.length : Int) := by
  unfold sEr sAt
  rw [sail_snoc h hl hx, hc, if_pos he]
  exact ⟨rfl, rfl⟩
theorem sail_yes {bs : List Bil} {hs : List Hld} {l : List Ev} {x : Ev} (h : sEr bs hs l = 0) (hl : l.length < 100) (hx : okEv x = true) (hc : chkP bs (hs.map Hld.cap) (sSt bs hs l) (lastM 0 l) x = 0) : sEr bs hs (l ++ [x]) = 0 ∧ sSt bs hs (l ++ [x]) = stepF (sSt bs hs l) x (l.length : Int) := by
  unfold sEr
  show _ ∧ (sailP bs hs (l ++ [x])).1 = _
  rw [sail_snoc h hl hx, if_neg (by rw [hc]; decide)]
  exact ⟨rfl, rfl⟩
theorem sail_chk {bs : List Bil} {hs : List Hld} {l : List Ev} {x : Ev} (h : sEr bs hs l = 0) (hl : l.length < 100) (hx : okEv x = true) : sEr bs hs (l ++ [x]) = chkP bs (hs.map Hld.cap) (sSt bs hs l) (lastM 0 l) x := by
  unfold sEr
  rw [sail_snoc h hl hx]
  by_cases hc : chkP bs (hs.map Hld.cap) (sSt bs hs l) (lastM 0 l) x ≠ 0
  · rw [if_pos hc]
  · rw [if_neg hc]; exact (Decidable.not_not.1 hc).symm

theorem nth_rev {α : Type} [Inhabited α] {l : List α} {j : Nat} (h : j < l.length) : nth l.reverse j = nth l (l.length - 1 - j) := by
  rw [nth_eq (by rw [List.length_reverse]; exact h), nth_eq (by omega), List.getElem_reverse]
/-- What a shift has done to its two holds. -/
structure ShOk (a b : List (List Lay)) (x : Ev) (ps : List Lay) : Prop where
  frm : 0 ≤ x.frm ∧ x.frm < 4
  to : 0 ≤ x.to ∧ x.to < 4
  app : nth b x.to.toNat = nth a x.to.toNat ++ ps
  sum : sumT (nth b x.frm.toNat) + x.tons = sumT (nth a x.frm.toNat)
  len : ps.length ≤ (nth a x.frm.toNat).length
  ord : ∀ j, j < ps.length → (nth ps j).bill = (nth (nth a x.frm.toNat) ((nth a x.frm.toNat).length - 1 - j)).bill ∧ (nth ps j).tons ≤ (nth (nth a x.frm.toNat) ((nth a x.frm.toNat).length - 1 - j)).tons ∧ (j + 1 < ps.length → (nth ps j).tons = (nth (nth a x.frm.toNat) ((nth a x.frm.toNat).length - 1 - j)).tons)
theorem shift_ok {d : List Ev} {n : Nat} (h : sEr fourB fourH d = 0) (hn : n < d.length) (hk : (nth d n).kind = 2) : ∃ ps, ShOk (sSt fourB fourH (d.take n)).hold (sSt fourB fourH (d.take (n + 1))).hold (nth d n) ps := by
  obtain ⟨_, h100, ho⟩ := sail_inv h
  have h1 := (sail_take h n).1
  have h2 := (sail_take h (n + 1)).1
  have hx := ho _ (nth_mem hn)
  have hr := okEv_rng hx
  have hl : (d.take n).length = n := by rw [List.length_take]; omega
  rw [take_nth hn] at h2 ⊢
  have hc := (sail_chk h1 (by omega) hx).symm.trans h2
  have hS := (sail_yes h1 (by omega) hx hc).2
  have hev := EvOk.of hx hc
  have hok := sail_ok h1
  rw [hS, step2 hk, hl]
  obtain ⟨u1, u2⟩ := use2 hk
  have f4 : (nth d n).frm.toNat < 4 := hev.frm u1
  have t4 : (nth d n).to.toNat < 4 := hev.to u2
  have hne := hev.ne hk
  have hhn : (sSt fourB fourH (d.take n)).hold.length = 4 := hok.hn
  have hlf : ∀ y ∈ nth (sSt fourB fourH (d.take n)).hold (nth d n).frm.toNat, LayOk (d.take n).length y := hok.tons _ (nth_mem (by omega))
  obtain ⟨k1, _, _, _⟩ := takV_spec hlf (by omega) (hev.has u1)
  obtain ⟨o1, o2⟩ := takR_ord (l := (nth (sSt fourB fourH (d.take n)).hold (nth d n).frm.toNat).reverse) (t := (nth d n).tons) (fun y hy => (hlf y (List.mem_reverse.1 hy)).1)
  refine ⟨(takV (nth (sSt fourB fourH (d.take n)).hold (nth d n).frm.toNat) (nth d n).tons).2.map (movL (n : Int)), ⟨by omega, by omega⟩, ⟨by omega, by omega⟩, ?_, ?_, ?_, fun j hj => ?_⟩
  · show nth (((sSt fourB fourH (d.take n)).hold.set _ _).set (nth d n).to.toNat _) (nth d n).to.toNat = _
    rw [nth_set_eq (by rw [List.length_set]; omega)]
  · show sumT (nth (((sSt fourB fourH (d.take n)).hold.set (nth d n).frm.toNat _).set (nth d n).to.toNat _) (nth d n).frm.toNat) + _ = _
    rw [nth_set_ne hne, nth_set_eq (by omega), k1]; omega
  · rw [List.length_map]
    rw [List.length_reverse] at o1
    exact o1
  · rw [List.length_map] at hj ⊢
    obtain ⟨e1, _, e3, e4⟩ := o2 j hj
    rw [List.length_reverse] at o1
    have hj2 : j < (nth (sSt fourB fourH (d.take n)).hold (nth d n).frm.toNat).length := Nat.lt_of_lt_of_le hj o1
    rw [nth_rev hj2] at e1 e3 e4
    rw [nth_map (movL (n : Int)) hj]
    exact ⟨e1, e3.2.1, e4⟩
theorem row_goes {l : List Ev} {S : Stt} (h : PathOk l S) {rows : List RowL} (e : rows.map rowV = S.hold) {i k : Nat} (hi : i < rows.length) (hk : k < (nth rows i).xs.length) : Goes l (nth (nth rows i).xs k).v (i : Int) := by
  have e2 : nth S.hold i = (nth rows i).xs.map HLay.v := by rw [← e, nth_map rowV hi]; rfl
  refine h.hold i (by rw [← e, List.length_map]; exact hi) _ ?_
  rw [e2]
  exact List.mem_map.2 ⟨_, nth_mem hk, rfl⟩
/-- What a later state shows of an unload that came before. -/
theorem land_pre {d : List Ev} (h : sEr fourB fourH d = 0) {n i : Nat} (hi : i < n) (hn : n ≤ d.length) (hk : (nth d i).kind = 3) {ps : List Lay} (hf : findL (sSt fourB fourH d).landed (i : Int) = some ps) : findL (sSt fourB fourH (d.take n)).landed (i : Int) = some ps := by
  obtain ⟨h1, m, e⟩ := sail_take h n
  have hi2 : i < (d.take n).length := by rw [List.length_take]; omega
  have hk2 : (nth (d.take n) i).kind = 3 := by
    have : nth (d.take n) i = nth d i := by
      have e9 := List.take_append_drop n d
      have := nth_appL (b := d.drop n) hi2
      rw [e9] at this
      exact this.symm
    rw [this]; exact hk
  obtain ⟨qs, h2, _⟩ := find_all (sail_path h1) hi2 hk2
  have h3 := find_pre (b := m) h2
  rw [← e, hf] at h3
  rw [h2]; exact h3.symm
theorem land_none {d : List Ev} (h : sEr fourB fourH d = 0) {n i : Nat} (hi : n ≤ i) : findL (sSt fourB fourH (d.take n)).landed (i : Int) = none := find_none (sail_path (sail_take h n).1) (by rw [List.length_take]; omega)

end Go.Proofs.Ytblkphbblkncdaa
