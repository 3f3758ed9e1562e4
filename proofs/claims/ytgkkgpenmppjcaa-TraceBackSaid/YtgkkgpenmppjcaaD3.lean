/-
  bills. Conditions: none.
-/
import Derived.Test.YtgkkgpenmppjcaaD2
namespace Go.Proofs.Ytgkkgpenmppjcaa
open Go Go.RowKit

/-- The bill of each ton, from the bottom to the top. -/
def flatB (l : List Lay) : List Int := l.flatMap fun x => List.replicate x.tons.toNat x.bill
theorem flatB_len : ∀ {l : List Lay}, (∀ x ∈ l, 1 ≤ x.tons) → ((flatB l).length : Int) = sumT l
  | [], _ => rfl
  | x :: l, h => by
    have h1 := h x (by simp)
    have h2 := flatB_len (l := l) (fun y hy => h y (List.mem_cons_of_mem _ hy))
    unfold flatB at h2 ⊢
    rw [List.flatMap_cons, List.length_append, List.length_replicate]
    simp only [sumT]
    omega
theorem flatB_take {l : List Lay} {k : Nat} (hk : k < l.length) : flatB (l.take (k + 1)) = flatB (l.take k) ++ List.replicate (nth l k).tons.toNat (nth l k).bill := by
  unfold flatB
  rw [take_nth hk, List.flatMap_append]; simp
theorem sumT_tk : ∀ {l : List Lay} {k : Nat}, (∀ x ∈ l, 1 ≤ x.tons) → sumT (l.take k) ≤ sumT l
  | [], k, _ => by simp
  | x :: l, 0, h => by
    have h1 := h x (by simp)
    have := flatB_len h
    show (0 : Int) ≤ _
    omega
  | x :: l, k + 1, h => by
    have := sumT_tk (l := l) (k := k) (fun y hy => h y (List.mem_cons_of_mem _ hy))
    simp only [List.take_succ_cons, sumT]
    omega
theorem flatB_room {l : List Lay} {k j : Nat} (h : ∀ x ∈ l, 1 ≤ x.tons) (hs : sumT l ≤ 2000) (hk : k < l.length) (hj : (j : Int) < (nth l k).tons) {b : Int} : (flatB (l.take k) ++ List.replicate j b).length < 2000 := by
  have h1 := flatB_take hk
  have h2 := flatB_len (l := l.take (k + 1)) (fun x hx => h x (List.mem_of_mem_take hx))
  have h3 := sumT_tk (k := k + 1) h
  rw [h1, List.length_append, List.length_replicate] at h2
  rw [List.length_append, List.length_replicate]
  omega
theorem rep_snoc {n : Nat} {b : Int} : List.replicate n b ++ [b] = List.replicate (n + 1) b := by rw [List.replicate_succ']
theorem own35 : Own Try.prog 35 := ⟨Try.f35, Try.func35, by kernel_rfl, by kernel_rfl⟩

set_option maxHeartbeats 1000000 in
theorem bills_c (xs : List HLay) (aa : Option Addr) (ba ca : Nat) (w0 : World) (ha0 : Sl encHLay 3 w0 aa ba 0 xs) (hl : xs.length ≤ 1000000) (h1s : ∀ x ∈ xs, 1 ≤ x.v.tons) (h2s : sumT (xs.map HLay.v) ≤ 2000) :
    CallsV Try.prog 35 [.slice aa (List.length xs) ca] w0 (fun v w' => ∃ ao g cp, v = .slice ao (flatB (xs.map HLay.v)).length cp ∧ Sl encI 1 w' ao g 0 (flatB (xs.map HLay.v)) ∧ Ext w0 w') := by
 have h1v : ∀ y ∈ (xs.map HLay.v), 1 ≤ y.tons := fun y hy => by obtain ⟨x, hx, rfl⟩ := List.mem_map.1 hy; exact h1s x hx
 refine f_enter (N := 41) Try.func35 rfl rfl rfl (c_seq fun K1 hK1 => (c_region (t_assign rfl rfl rfl (t_nil' (hK1 _ _ (c_seq fun K2 hK2 => (c_region (t_bslice (ps := []) (cs := []) (e := 3) rfl rfl ⟨rfl, rfl⟩ (fun w => by kernel_rfl) (fun bk3 w4 ebk3 sbk3 B5 u6 => ?_)))))))))
 have zu6 := u6.size
 refine t_assign rfl rfl rfl (t_nil' (hK2 _ _ (c_seq fun K8 hK8 => (c_seq fun K9 hK9 => (c_region (t_assign rfl rfl rfl (t_nil' (hK9 _ _ (c_block ?_)))))))))
 have hlb := B5.lt
 have hac : Acc encI 1 3 bk3 w4 (some ⟨bk3, 0, none⟩) bk3 0 [] := Acc.ofBlk (xs := ([] : List Int)) encI 1 (fun _ => rfl) B5 (Nat.le_refl _) (by decide)
 refine c_loop (γ := Nat × Option Addr × Nat × Nat × List Int) (fun gg => [(0, .slice aa (List.length xs) ca), (3, .slice gg.2.1 gg.2.2.2.2.length gg.2.2.2.1), (4, .int .i64 (gg.1 : Int))]) (fun gg w => Upd (fun i => i = bk3) w4 w ∧ (gg.1 ≤ xs.length) ∧ (Acc encI 1 3 bk3 w gg.2.1 gg.2.2.1 gg.2.2.2.1 gg.2.2.2.2) ∧ (gg.2.2.2.2 = flatB ((xs.map HLay.v).take gg.1)) ∧ (gg.2.2.1 = bk3 ∨ w4.heap.size ≤ gg.2.2.1)) (fun gg => xs.length - gg.1) (0, some ⟨bk3, 0, none⟩, bk3, 0, []) ⟨rfl, rfl, rfl, trivial⟩ ⟨Upd.refl _ _, (Nat.zero_le _), hac, rfl, (.inl rfl)⟩ ?_
 intro gg w11 hW K10 hK10
 obtain ⟨k, ao, go, co, out⟩ := gg
 change WC _ _ _ _ _ _ [(0, .slice aa (List.length xs) ca), (3, .slice ao out.length co), (4, .int .i64 (k : Int))] _
 change Upd (fun i => i = bk3) w4 w11 ∧ (k ≤ xs.length) ∧ (Acc encI 1 3 bk3 w11 ao go co out) ∧ (out = flatB ((xs.map HLay.v).take k)) ∧ (go = bk3 ∨ w4.heap.size ≤ go) at hW
 obtain ⟨u12, I13, I14, I15, I16⟩ := hW
 have zu12 := u12.size
 have hk := I13; clear I13
 have ha := I14; clear I14
 have hout := I15; clear I15
 have hgo := I16; clear I16
 have lt_go := ha.lt
 refine c_seq fun K18 hK18 => (c_cut (γ := Bool) (fun q => [(0, .slice aa (List.length xs) ca), (3, .slice ao out.length co), (4, .int .i64 (k : Int)), (15, .bool q)]) (fun q w => Upd (fun _ => False) w11 w ∧ (q = true ↔ (k < xs.length ∧ out.length < 2000))) (fun K20 hK20 => ?_) ?_)
 ·
  refine c_region (t_move rfl rfl rfl (t_move rfl rfl rfl (t_len Try.underlying36 rfl rfl rfl rfl (t_cmp rfl rfl rfl rfl rfl (t_move rfl rfl rfl (t_splitp 11 rfl (fun g11 => ?_) (fun g11 => ?_)))))))
  ·
   refine t_move rfl rfl rfl (t_len Try.underlying45 rfl rfl rfl rfl (t_cmp rfl rfl rfl rfl rfl (t_pick_t rfl rfl rfl rfl (t_nil' ?_))))
   exact hK20 (decide ((out.length : Int) < 2000)) _ _ ⟨rfl, rfl, rfl, rfl, trivial⟩ ⟨(Upd.refl _ _), (decide_eq_true_iff.trans ⟨fun h => ⟨by omega, by omega⟩, fun h => by omega⟩)⟩
  refine t_skip rfl rfl rfl (t_skip rfl rfl rfl (t_skip rfl rfl rfl (t_pick_f rfl rfl rfl rfl (t_nil' ?_))))
  exact hK20 false _ _ ⟨rfl, rfl, rfl, rfl, trivial⟩ ⟨(Upd.refl _ _), ⟨fun h => (by cases h), fun h => absurd h.1 (by omega)⟩⟩
 intro q w21 hW
 obtain ⟨u22, I23⟩ := hW
 have zu22 := u22.size
 have E24 := (((Upd.refl (fun _ => False) w0).nx u6).next u12 (fun i hi h => by omega)).nx u22
 have hq := I23; clear I23
 refine c_cond rfl (fun g15 => ?_) (fun g15 => ?_)
 ·
  have hq9 := hq.1 g15
  refine c_skip (hK18 _ _ (c_seq fun K25 hK25 => (c_block (c_seq fun K26 hK26 => (c_region (t_assign rfl rfl rfl (t_nil' (hK26 _ _ (c_block ?_)))))))))
  have D27 := (ha.keep u22 (fun _ h => h))
  refine c_loop (γ := Nat × Option Addr × Nat × Nat × List Int) (fun gg => [(0, .slice aa (List.length xs) ca), (3, .slice gg.2.1 gg.2.2.2.2.length gg.2.2.2.1), (4, .int .i64 (k : Int)), (5, .int .i64 (gg.1 : Int))]) (fun gg w => Upd (fun i => (i = go ∧ bk3 ≤ i)) w21 w ∧ ((gg.1 : Int) ≤ (nth xs k).v.tons) ∧ (Acc encI 1 3 bk3 w gg.2.1 gg.2.2.1 gg.2.2.2.1 gg.2.2.2.2) ∧ (gg.2.2.2.2 = flatB ((xs.map HLay.v).take k) ++ List.replicate gg.1 (nth xs k).v.bill) ∧ (gg.2.2.1 = go ∨ w21.heap.size ≤ gg.2.2.1)) (fun gg => (nth xs k).v.tons.toNat - gg.1) (0, ao, go, co, out) ⟨rfl, rfl, rfl, rfl, trivial⟩ ⟨Upd.refl _ _, (by have := h1s _ (nth_mem (xs := xs) (i := k) (by omega)); show ((0 : Nat) : Int) ≤ _; omega), D27, (by show out = _ ++ []; rw [List.append_nil]; exact hout), (.inl rfl)⟩ ?_
  intro gg w29 hW K28 hK28
  obtain ⟨j, a2, g2, c2, o2⟩ := gg
  change WC _ _ _ _ _ _ [(0, .slice aa (List.length xs) ca), (3, .slice a2 o2.length c2), (4, .int .i64 (k : Int)), (5, .int .i64 (j : Int))] _
  change Upd (fun i => (i = go ∧ bk3 ≤ i)) w21 w29 ∧ ((j : Int) ≤ (nth xs k).v.tons) ∧ (Acc encI 1 3 bk3 w29 a2 g2 c2 o2) ∧ (o2 = flatB ((xs.map HLay.v).take k) ++ List.replicate j (nth xs k).v.bill) ∧ (g2 = go ∨ w21.heap.size ≤ g2) at hW
  obtain ⟨u30, I31, I32, I33, I34⟩ := hW
  have zu30 := u30.size
  have E35 := E24.next u30 (fun i hi h => by omega)
  have hj := I31; clear I31
  have hi1 := I32; clear I32
  have hi2 := I33; clear I33
  have hi3 := I34; clear I34
  have lt_g2 := hi1.lt
  refine c_seq fun K36 hK36 => (c_cut (γ := Bool) (fun q2 => [(0, .slice aa (List.length xs) ca), (3, .slice a2 o2.length c2), (4, .int .i64 (k : Int)), (5, .int .i64 (j : Int)), (29, .bool q2)]) (fun q2 w => Upd (fun _ => False) w29 w ∧ (q2 = true ↔ ((j : Int) < (nth xs k).v.tons ∧ o2.length < 2000))) (fun K38 hK38 => ?_) ?_)
  ·
   refine c_region (t_move rfl rfl rfl (t_move rfl rfl rfl (t_move rfl rfl rfl ?_)))
   have i41 : k < xs.length := (by omega)
   refine t_index (j := k) Try.underlying36 Try.sizeOf97 rfl rfl rfl rfl ((ha0.keep E35 (fun _ h => h)).addr (by omega)) rfl (by omega) (t_field Try.underlying97 rfl Try.sizeOf3 (0 + k * 3 + 1) rfl rfl rfl rfl (t_load Try.isAgg3 rfl rfl rfl (((ha0.keep E35 (fun _ h => h)).at_ k (by omega)) 1 _ rfl) (t_cmp rfl rfl rfl rfl rfl (t_move rfl rfl rfl (t_splitp 25 rfl (fun g25 => ?_) (fun g25 => ?_))))))
   ·
    refine t_move rfl rfl rfl (t_len Try.underlying45 rfl rfl rfl rfl (t_cmp rfl rfl rfl rfl rfl (t_pick_t rfl rfl rfl rfl (t_nil' ?_))))
    exact hK38 (decide ((o2.length : Int) < 2000)) _ _ ⟨rfl, rfl, rfl, rfl, rfl, trivial⟩ ⟨(Upd.refl _ _), (decide_eq_true_iff.trans ⟨fun h => ⟨by omega, by omega⟩, fun h => by omega⟩)⟩
   refine t_skip rfl rfl rfl (t_skip rfl rfl rfl (t_skip rfl rfl rfl (t_pick_f rfl rfl rfl rfl (t_nil' ?_))))
   exact hK38 false _ _ ⟨rfl, rfl, rfl, rfl, rfl, trivial⟩ ⟨(Upd.refl _ _), ⟨fun h => (by cases h), fun h => absurd h.1 (by omega)⟩⟩
  intro q2 w39 hW
  obtain ⟨u40, I42⟩ := hW
  have zu40 := u40.size
  have E43 := E35.nx u40
  have hq2 := I42; clear I42
  refine c_cond rfl (fun g29 => ?_) (fun g29 => ?_)
  ·
   have hq8 := hq2.1 g29
   have hjl : j ≤ o2.length := by rw [hi2, List.length_append, List.length_replicate]; omega
   refine c_skip (hK36 _ _ (c_seq fun K44 hK44 => (c_block (c_region (t_move rfl rfl rfl (t_move rfl rfl rfl (t_move rfl rfl rfl ?_)))))))
   have i45 : k < xs.length := (by omega)
   refine t_index (j := k) Try.underlying36 Try.sizeOf97 rfl rfl rfl rfl ((ha0.keep E43 (fun _ h => h)).addr (by omega)) rfl (by omega) (t_field Try.underlying97 rfl Try.sizeOf3 (0 + k * 3 + 0) rfl rfl rfl rfl (t_load Try.isAgg3 rfl rfl rfl (((ha0.keep E43 (fun _ h => h)).at_ k (by omega)) 0 _ rfl) (t_bslice (ps := [(0, .int .i64 ((nth xs k).v.bill))]) (cs := [.int .i64 ((nth xs k).v.bill)]) (e := 3) rfl rfl ⟨rfl, rfl⟩ (fun w => by kernel_rfl) (fun bk46 w47 ebk46 sbk46 B48 u49 => ?_))))
   have zu49 := u49.size
   have D51 := ((hi1.keep u40 (fun _ h => h)).keep u49 (fun _ h => h))
   refine t_append (z := .int .i64 0) (bytes := 8) (k := 1) (base := bk3) ((nth xs k).v.bill) Try.underlying45 (by kernel_rfl) rfl (by decide) (fun _ => rfl) (by intro x; simp [encI, Value.oneCell']) rfl rfl rfl rfl D51 B48 (by omega) (by omega) (by decide) (fun ao52 gb53 cp54 w55 A56 u57 gegb53 lngb53 => ?_)
   have zu57 := u57.size
   have lt_gb53 := A56.lt
   refine t_assign rfl rfl rfl (t_nil' (hK44 _ _ (c_region (t_move rfl rfl rfl (t_ari rfl rfl rfl rfl rfl (by omega) (t_assign rfl rfl rfl (t_nil' ?_)))))))
   exact hK28 (j + 1, ao52, gb53, cp54, (o2 ++ [(nth xs k).v.bill])) _ _ (by show (nth xs k).v.tons.toNat - (j + 1) < (nth xs k).v.tons.toNat - j; omega) ⟨rfl, rfl, rfl, rfl, trivial⟩ ⟨(((u30.next u40 (fun _ _ h => h.elim)).next u49 (fun _ _ h => h.elim)).next u57 (fun i hi h => by omega)), (by omega), A56, (by rw [hi2, List.append_assoc, rep_snoc]), (by show gb53 = go ∨ _ ≤ gb53; omega)⟩
  have hjt : (nth xs k).v.tons.toNat = j := by
    have h9 : ¬ ((j : Int) < (nth xs k).v.tons ∧ o2.length < 2000) := fun h => by rw [hq2.2 h] at g29; cases g29
    rcases Int.lt_or_le (j : Int) (nth xs k).v.tons with h | h
    · have h2 := flatB_room (k := k) (j := j) (b := (nth xs k).v.bill) h1v h2s (by rw [List.length_map]; omega) (by rw [nth_mapl]; exact h)
      rw [← hi2] at h2
      exact absurd ⟨h, h2⟩ h9
    · omega
  refine c_exit (hK25 _ _ (c_region (t_move rfl rfl rfl (t_ari rfl rfl rfl rfl rfl (by omega) (t_assign rfl rfl rfl (t_nil' ?_))))))
  have D59 := (hi1.keep u40 (fun _ h => h))
  exact hK10 (k + 1, a2, g2, c2, o2) _ _ (by show xs.length - (k + 1) < xs.length - k; omega) ⟨rfl, rfl, rfl, trivial⟩ ⟨(((u12.next u22 (fun _ _ h => h.elim)).next u30 (fun i hi h => by omega)).next u40 (fun _ _ h => h.elim)), (by omega), D59, (by rw [hi2, flatB_take (by rw [List.length_map]; omega), nth_mapl, hjt]), (by show g2 = bk3 ∨ _ ≤ g2; omega)⟩
 have hq9 : ¬ (k < xs.length ∧ out.length < 2000) := fun h => by rw [hq.2 h] at g15; cases g15
 have hkl : k = xs.length := by
   rcases Nat.lt_or_ge k xs.length with h | h
   · have h2 := flatB_room (k := k) (j := 0) (b := 0) h1v h2s (by rw [List.length_map]; exact h) (by rw [nth_mapl]; have := h1s _ (nth_mem (xs := xs) (i := k) h); show ((0 : Nat) : Int) < _; omega)
     rw [List.replicate_zero, List.append_nil, ← hout] at h2
     exact absurd ⟨h, h2⟩ hq9
   · omega
 have hfin : out = flatB (xs.map HLay.v) := by rw [hout, hkl, List.take_of_length_le (by rw [List.length_map]; omega)]
 refine c_exit (hK8 _ _ (c_seq fun K60 hK60 => (c_region (t_move rfl rfl rfl (t_assign rfl rfl rfl (t_nil' (hK60 _ _ (c_ret (f_ret1 (v := .slice ao out.length co) Try.results35 rfl ?_)))))))))
 have D61 := (ha.keep u22 (fun _ h => h))
 exact ⟨ao, go, co, by rw [← hfin], by rw [← hfin]; exact (D61.sl (fun _ => rfl)), E24⟩

end Go.Proofs.Ytgkkgpenmppjcaa
