/-
  Contracts of copies and sizes of traffic. Conditions: none.
-/
import Derived.Test.YtmicjleiheoieaaA17
namespace Go.Proofs.Ytmicjleiheoieaa
open Go Go.RowKit
def lrgB (vs : List HVoy) (ns : List Nar) : Bool := (vs.any fun x => decide (25 < x.v.runs.length)) || decide (14 < vs.length) || decide (25 < ns.length)
theorem anyV_step {vs : List HVoy} {p : HVoy → Bool} {k : Nat} (hk : k < vs.length) : ((vs.take (k + 1)).any p) = ((vs.take k).any p || p (nth vs k)) := by
  rw [take_nth hk]; simp
theorem anyV_at {vs : List HVoy} {p : HVoy → Bool} {k : Nat} (hk : k < vs.length) (h : p (nth vs k) = true) : vs.any p = true := List.any_eq_true.2 ⟨_, nth_mem hk, h⟩

theorem own22 : Own Try.prog 22 := ⟨Try.f22, Try.func22, by kernel_rfl, by kernel_rfl⟩
theorem own24 : Own Try.prog 24 := ⟨Try.f24, Try.func24, by kernel_rfl, by kernel_rfl⟩
theorem own25 : Own Try.prog 25 := ⟨Try.f25, Try.func25, by kernel_rfl, by kernel_rfl⟩

theorem large_c (vs : List HVoy) (av : Option Addr) (bv ov cv : Nat) (ns : List Nar) (an : Option Addr) (bn on cn : Nat) (w0 : World) (hs : Sl encHVoy 5 w0 av bv ov vs) (hruns : ∀ x ∈ vs, Sl encRun 6 w0 x.ao x.b x.o x.v.runs) (hn : Sl encNar 4 w0 an bn on ns) (hvl : vs.length ≤ 9223372036854775807) (hnl : ns.length ≤ 9223372036854775807) :
    CallsV Try.prog 22 [.agg #[.slice av vs.length cv, .slice an ns.length cn]] w0 (fun v w' => v = .bool (lrgB vs ns) ∧ Ext w0 w') := by
 have E0 := Upd.refl (fun _ => False) w0
 refine f_enter (N := 29) Try.func22 rfl rfl rfl ?_
 change WC _ _ _ _ _ _ [(0, .agg #[.slice av vs.length cv, .slice an ns.length cn])] _
 refine c_seq fun K1 hK1 => (c_region (t_box (cs := [.slice av vs.length cv, .slice an ns.length cn]) rfl rfl rfl rfl (fun bk2 w3 ebk2 sbk2 B4 u5 => ?_)))
 have zu5 := u5.size
 have E6 := E0.next u5 (fun _ _ h => h.elim)
 refine t_assign rfl rfl rfl (t_nil' (hK1 _ _ (c_seq fun K7 hK7 => (c_seq fun K8 hK8 => (c_region (t_assign rfl rfl rfl (t_nil' (hK8 _ _ (c_block (c_loop (γ := Nat) (fun k => [(1, .pointer (some ⟨bk2, 0, none⟩)), (3, .int .i64 (k : Int))]) (fun k w => Upd (fun _ => False) w3 w ∧ (k ≤ vs.length) ∧ (((vs.take k).any fun x => decide (25 < x.v.runs.length)) = false)) (fun k => vs.length - k) 0 ⟨rfl, rfl, trivial⟩ ⟨Upd.refl _ _, Nat.zero_le _, rfl⟩ ?_))))))))))
 intro k w10 hW K9 hK9
 obtain ⟨u11, I12, I13⟩ := hW
 have zu11 := u11.size
 have E14 := E6.next u11 (fun _ _ h => h.elim)
 have hk := I12; clear I12
 have hin := I13; clear I13
 refine c_seq fun K15 hK15 => (c_seq fun K16 hK16 => (c_region (t_move rfl rfl rfl (t_field Try.underlying37 rfl Try.sizeOf34 (0) rfl rfl rfl rfl ?_))))
 have B17 := (B4.keep u11 (fun h => h))
 refine t_load Try.isAgg34 rfl rfl rfl (B17.get rfl) (t_len Try.underlying34 rfl rfl rfl rfl (t_cmp rfl rfl rfl rfl rfl (t_nil' (hK16 _ _ (c_condp rfl (fun g8 => ?_) (fun g8 => ?_))))))
 ·
  refine c_skip (hK15 _ _ (c_seq fun K18 hK18 => (c_block (c_seq fun K19 hK19 => (c_region (t_field Try.underlying37 rfl Try.sizeOf34 (0) rfl rfl rfl rfl (t_load Try.isAgg34 rfl rfl rfl (B17.get rfl) (t_move rfl rfl rfl ?_))))))))
  have i20 : k < vs.length := (by omega)
  refine t_index (j := k) Try.underlying34 Try.sizeOf48 rfl rfl rfl rfl ((hs.keep E14 (fun _ h => h)).addr (by omega)) rfl i20 (t_field Try.underlying48 rfl Try.sizeOf46 (ov + k * 5 + 2) rfl rfl rfl rfl (t_load Try.isAgg46 rfl rfl rfl (((hs.keep E14 (fun _ h => h)).at_ k (by omega)) 2 _ rfl) (t_len Try.underlying46 rfl rfl rfl rfl (t_cmp rfl rfl rfl rfl rfl (t_nil' (hK19 _ _ (c_condp rfl (fun g18 => ?_) (fun g18 => ?_))))))))
  ·
   refine c_seq fun K21 hK21 => (c_region (t_assign rfl rfl rfl (t_nil' (hK21 _ _ (c_ret (f_ret1 (v := .bool true) Try.results22 rfl ?_))))))
   exact ⟨congrArg Value.bool (by unfold lrgB; rw [anyV_at (k := k) (by omega) (decide_eq_true (by omega)), Bool.true_or, Bool.true_or]), E14⟩
  ·
   refine c_skip (hK18 _ _ (c_region (t_move rfl rfl rfl (t_ari rfl rfl rfl rfl rfl (by omega) (t_assign rfl rfl rfl (t_nil' ?_))))))
   exact hK9 (k + 1) _ _ (by omega) ⟨rfl, rfl, trivial⟩ ⟨u11, (by omega), (by rw [anyV_step (by omega), hin, decide_eq_false (by omega)]; rfl)⟩
 ·
  refine c_exit (hK7 _ _ (c_seq fun K22 hK22 => (c_region (t_field Try.underlying37 rfl Try.sizeOf34 (0) rfl rfl rfl rfl (t_load Try.isAgg34 rfl rfl rfl (B17.get rfl) (t_len Try.underlying34 rfl rfl rfl rfl (t_cmp rfl rfl rfl rfl rfl (t_move rfl rfl rfl (t_splitp 23 rfl (fun g23 => ?_) (fun g23 => ?_))))))))))
  ·
   refine t_skip rfl rfl rfl (t_skip rfl rfl rfl (t_skip rfl rfl rfl (t_skip rfl rfl rfl (t_pick_t rfl rfl rfl rfl (t_assign rfl rfl rfl (t_nil' (hK22 _ _ (c_ret (f_ret1 (v := .bool true) Try.results22 rfl ?_)))))))))
   have ha : (vs.any fun x => decide (25 < x.v.runs.length)) = false := by rw [List.take_of_length_le (by omega)] at hin; exact hin
   exact ⟨(congrArg Value.bool (by unfold lrgB; rw [ha, Bool.false_or, decide_eq_true (show 14 < vs.length by omega), Bool.true_or])), E14⟩
  ·
   refine t_field Try.underlying37 rfl Try.sizeOf35 (1) rfl rfl rfl rfl (t_load Try.isAgg35 rfl rfl rfl (B17.get rfl) (t_len Try.underlying35 rfl rfl rfl rfl (t_cmp rfl rfl rfl rfl rfl (t_pick_f rfl rfl rfl rfl (t_assign rfl rfl rfl (t_nil' (hK22 _ _ (c_ret (f_ret1 (v := .bool (decide (25 < (ns.length : Int)))) Try.results22 rfl ?_)))))))))
   have ha : (vs.any fun x => decide (25 < x.v.runs.length)) = false := by rw [List.take_of_length_le (by omega)] at hin; exact hin
   exact ⟨(congrArg Value.bool (by unfold lrgB; rw [ha, Bool.false_or, decide_eq_false (show ¬ 14 < vs.length by omega), Bool.false_or]; exact decide_eq_decide.2 (by omega))), E14⟩

theorem narrows_c (ns : List Nar) (an : Option Addr) (bn on cn : Nat) (w0 : World) (hn : Sl encNar 4 w0 an bn on ns) (hnl : ns.length ≤ 1000000) :
    CallsV Try.prog 25 [.slice an ns.length cn] w0 (fun x w' => (∃ ao' b' cap', x = .slice ao' ns.length cap' ∧ Sl encNar 4 w' ao' b' 0 ns ∧ w0.heap.size ≤ b') ∧ Ext w0 w') := by
 have E0 := Upd.refl (fun _ => False) w0
 refine f_enter (N := 6) Try.func25 rfl rfl rfl ?_
 change WC _ _ _ _ _ _ [(0, .slice an ns.length cn)] _
 refine c_seq fun K1 hK1 => (c_region (t_assign rfl rfl rfl (t_nil' (hK1 _ _ (c_seq fun K2 hK2 => (c_region (t_bslice (ps := []) (cs := []) (e := 72) rfl rfl ⟨rfl, rfl⟩ (fun w => by kernel_rfl) (fun bk3 w4 ebk3 sbk3 B5 u6 => ?_))))))))
 have zu6 := u6.size
 have E7 := E0.next u6 (fun _ _ h => h.elim)
 refine t_move rfl rfl rfl (t_copy (enc := encNar) (z := .agg #[.int .i64 0, .int .i64 0, .int .i64 0, .bool false]) (bytes := 32) (k := 4) (ys := ns) Try.underlying35 (by kernel_rfl) rfl (by decide) (fun _ => rfl) (by intro x; simp [encNar, Value.oneCell']) rfl rfl rfl rfl B5 (hn.keep E7 (fun _ h => h)) (by omega) (by decide) (fun ao8 gb9 cp10 w11 A12 u13 gegb9 => ?_))
 have zu13 := u13.size
 have E14 := E7.next u13 (fun i hi (h : (i = bk3 ∧ bk3 ≤ i)) => show False by first | omega | assumption)
 have lt_gb9 := A12.lt
 refine t_assign rfl rfl rfl (t_nil' (hK2 _ _ (c_ret (f_ret1 (v := .slice ao8 ns.length cp10) Try.results25 rfl ?_))))
 exact ⟨⟨_, gb9, _, rfl, (A12.sl (fun _ => rfl)), by omega⟩, E14⟩

theorem allA_c (vs : List HVoy) (av : Option Addr) (bv ov cv : Nat) (w0 : World) (hs : Sl encHVoy 5 w0 av bv ov vs) (hruns : ∀ x ∈ vs, Sl encRun 6 w0 x.ao x.b x.o x.v.runs) (hvl : vs.length ≤ 1000000) (hrl : ∀ x ∈ vs, x.v.runs.length ≤ 1000000) :
    CallsV Try.prog 24 [.slice av vs.length cv] w0 (fun x w' => (∃ us b' cap' base, x = .slice (some ⟨b', 0, none⟩) us.length cap' ∧ us.map HVoy.v = vs.map HVoy.v ∧ Acc encHVoy 5 48 base w' (some ⟨b', 0, none⟩) b' cap' us ∧ Fam encRun 6 HVoy.ao HVoy.b HVoy.o (fun x : HVoy => x.v.runs) base b' w'.heap.size us w' ∧ w0.heap.size ≤ base ∧ base ≤ b') ∧ Ext w0 w') := by
 have E0 := Upd.refl (fun _ => False) w0
 refine f_enter (N := 21) Try.func24 rfl rfl rfl ?_
 change WC _ _ _ _ _ _ [(0, .slice av vs.length cv)] _
 refine c_seq fun K1 hK1 => (c_region (t_assign rfl rfl rfl (t_nil' (hK1 _ _ (c_seq fun K2 hK2 => (c_region (t_bslice (ps := []) (cs := []) (e := 48) rfl rfl ⟨rfl, rfl⟩ (fun w => by kernel_rfl) (fun bk3 w4 ebk3 sbk3 B5 u6 => ?_))))))))
 have zu6 := u6.size
 have E7 := E0.next u6 (fun _ _ h => h.elim)
 refine t_assign rfl rfl rfl (t_nil' (hK2 _ _ (c_seq fun K8 hK8 => (c_seq fun K9 hK9 => (c_region (t_assign rfl rfl rfl (t_nil' (hK9 _ _ (c_block (c_loop (γ := Nat × Option Addr × Nat × Nat × List HVoy) (fun gg => [(0, .slice av vs.length cv), (3, .slice gg.2.1 gg.2.2.2.2.length gg.2.2.2.1), (4, .int .i64 (gg.1 : Int))]) (fun gg w => Upd (fun i => i = bk3) w4 w ∧ (gg.1 ≤ vs.length) ∧ (gg.2.2.2.2.map HVoy.v = (vs.take gg.1).map HVoy.v) ∧ (Acc encHVoy 5 48 bk3 w gg.2.1 gg.2.2.1 gg.2.2.2.1 gg.2.2.2.2) ∧ (Fam encRun 6 HVoy.ao HVoy.b HVoy.o (fun x : HVoy => x.v.runs) bk3 gg.2.2.1 w.heap.size gg.2.2.2.2 w) ∧ (gg.2.2.2.2.length = gg.1) ∧ (bk3 ≤ gg.2.2.1 ∧ gg.2.1 = some ⟨gg.2.2.1, 0, none⟩)) (fun gg => vs.length - gg.1) (0, some ⟨bk3, 0, none⟩, bk3, 0, []) ⟨rfl, rfl, rfl, trivial⟩ ⟨Upd.refl _ _, (Nat.zero_le _), rfl, (Acc.lit encHVoy 5 B5 (Nat.le_refl _)), Fam.nil, rfl, ⟨Nat.le_refl _, rfl⟩⟩ ?_))))))))))
 intro gg w11 hW K10 hK10
 obtain ⟨k, ao2, g2, c2, us⟩ := gg
 change WC _ _ _ _ _ _ [(0, .slice av vs.length cv), (3, .slice ao2 us.length c2), (4, .int .i64 (k : Int))] _
 change Upd (fun i => i = bk3) w4 w11 ∧ (k ≤ vs.length) ∧ (us.map HVoy.v = (vs.take k).map HVoy.v) ∧ (Acc encHVoy 5 48 bk3 w11 ao2 g2 c2 us) ∧ (Fam encRun 6 HVoy.ao HVoy.b HVoy.o (fun x : HVoy => x.v.runs) bk3 g2 w11.heap.size us w11) ∧ (us.length = k) ∧ (bk3 ≤ g2 ∧ ao2 = some ⟨g2, 0, none⟩) at hW
 obtain ⟨u12, I13, I14, I15, I16, I17, I18⟩ := hW
 have zu12 := u12.size
 have E19 := E7.next u12 (fun i hi (h : i = bk3) => show False by first | omega | assumption)
 have hk := I13; clear I13
 have hmap := I14; clear I14
 have hacc := I15; clear I15
 have hfam := I16; clear I16
 have hul := I17; clear I17
 have hga := I18; clear I18
 have lt_g2 := hacc.lt
 refine c_seq fun K20 hK20 => (c_seq fun K21 hK21 => (c_region (t_move rfl rfl rfl (t_move rfl rfl rfl (t_len Try.underlying34 rfl rfl rfl rfl (t_cmp rfl rfl rfl rfl rfl (t_nil' (hK21 _ _ (c_condp rfl (fun g9 => ?_) (fun g9 => ?_))))))))))
 ·
  refine c_skip (hK20 _ _ (c_seq fun K22 hK22 => (c_block (c_region (t_move rfl rfl rfl (t_move rfl rfl rfl (t_move rfl rfl rfl ?_)))))))
  have i23 : k < vs.length := (by omega)
  refine t_index (j := k) Try.underlying34 Try.sizeOf48 rfl rfl rfl rfl ((hs.keep E19 (fun _ h => h)).addr (by omega)) rfl i23 (t_loadN (vs := [.int .i64 ((nth vs k).v.st.lo), .int .i64 ((nth vs k).v.st.hi), .slice ((nth vs k).ao) (((nth vs k).v.runs).length) ((nth vs k).cap), .int .i64 ((nth vs k).v.len), .int .i64 ((nth vs k).v.wid)]) Try.isAgg48 Try.sizeOf48 rfl rfl rfl (((hs.keep E19 (fun _ h => h)).at_ k (by omega)).sub 0 5) rfl ?_)
  have hrk := hrl _ (nth_mem (xs := vs) (i := k) (by omega))
  refine t_call (vs := [.agg #[.int .i64 ((nth vs k).v.st.lo), .int .i64 ((nth vs k).v.st.hi), .slice ((nth vs k).ao) (((nth vs k).v.runs).length) ((nth vs k).cap), .int .i64 ((nth vs k).v.len), .int .i64 ((nth vs k).v.wid)]]) own28 rfl rfl rfl rfl (copied_c (nth vs k).v (nth vs k).ao (nth vs k).b (nth vs k).o (nth vs k).cap _ ((hruns (nth vs k) (nth_mem (by omega))).keep E19 (fun _ h => h)) (by omega)) (fun v25 w26 r28 => ?_)
  obtain ⟨⟨aoC24, bC24, cpC24, rfl, hC24, gebC24⟩, u27⟩ := r28
  have zu27 := u27.size
  refine t_bslice (ps := [(0, .agg #[.int .i64 ((nth vs k).v.st.lo), .int .i64 ((nth vs k).v.st.hi), .slice aoC24 (((nth vs k).v.runs).length) cpC24, .int .i64 ((nth vs k).v.len), .int .i64 ((nth vs k).v.wid)])]) (cs := [.int .i64 ((nth vs k).v.st.lo), .int .i64 ((nth vs k).v.st.hi), .slice aoC24 (((nth vs k).v.runs).length) cpC24, .int .i64 ((nth vs k).v.len), .int .i64 ((nth vs k).v.wid)]) (e := 48) rfl rfl ⟨rfl, rfl⟩ (fun w => by kernel_rfl) (fun bk30 w31 ebk30 sbk30 B32 u33 => ?_)
  have zu33 := u33.size
  have D35 := ((hacc.keep u27 (fun _ h => h)).keep u33 (fun _ h => h))
  have D36 := ((hfam.keep u27 (fun _ _ _ _ h => h)).keep u33 (fun _ _ _ _ h => h))
  have D37 := (hC24.keep u33 (fun _ h => h))
  have hnf := D36
  have hns := D37
  have hna := D35
  have hnl := hna.lt
  refine t_append (z := .agg #[.int .i64 0, .int .i64 0, .slice none 0 0, .int .i64 0, .int .i64 0]) (bytes := 56) (k := 5) (base := bk3) (⟨(nth vs k).v, aoC24, bC24, 0, cpC24⟩ : HVoy) Try.underlying34 (by kernel_rfl) rfl (by decide) (fun _ => rfl) (by intro x; simp [encHVoy, Value.oneCell']) rfl rfl rfl rfl D35 B32 (by omega) (by omega) (by decide) (fun ao38 gb39 cp40 w41 A42 u43 gegb39 lngb39 => ?_)
  have zu43 := u43.size
  have lt_gb39 := A42.lt
  refine t_assign rfl rfl rfl (t_nil' (hK22 _ _ (c_region (t_move rfl rfl rfl (t_ari rfl rfl rfl rfl rfl (by omega) (t_assign rfl rfl rfl (t_nil' ?_)))))))
  exact hK10 (k + 1, ao38, gb39, cp40, (us ++ [(⟨(nth vs k).v, aoC24, bC24, 0, cpC24⟩ : HVoy)])) _ _ (by show vs.length - (k + 1) < vs.length - k; omega) ⟨rfl, rfl, rfl, trivial⟩ ⟨(((u12.next u27 (fun _ _ h => h.elim)).next u33 (fun _ _ h => h.elim)).next u43 (fun i hi (h : (i = g2 ∧ bk3 ≤ i)) => show i = bk3 by first | omega | assumption)), (by show k + 1 ≤ vs.length; omega), (by rw [List.map_append, hmap, take_nth (by omega), List.map_append, List.map_singleton, List.map_singleton]), A42, (((hnf.keep u43 (fun i h1 h2 h3 => show ¬ ((i = g2 ∧ bk3 ≤ i)) by omega)).snoc (⟨(nth vs k).v, aoC24, bC24, 0, cpC24⟩ : HVoy) gb39 w41.heap.size (by omega) (hns.keep u43 (fun hp => by have hlt := hns.lt hp; show ¬ ((bC24 = g2 ∧ bk3 ≤ bC24)); omega)) (fun hp => by have hlt := hns.lt hp; show bk3 ≤ bC24 ∧ bC24 ≠ gb39 ∧ bC24 < w41.heap.size; omega) (by omega)).mono (by omega)), (by show (us ++ [_]).length = k + 1; simp [hul]), ⟨(by show bk3 ≤ gb39; omega), (A42).addr_snoc⟩⟩
 ·
  refine c_exit (hK8 _ _ (c_seq fun K45 hK45 => (c_region (t_move rfl rfl rfl (t_assign rfl rfl rfl (t_nil' (hK45 _ _ (c_ret (f_ret1 (v := .slice ao2 us.length c2) Try.results24 rfl ?_)))))))))
  obtain ⟨hg2, rfl⟩ := hga
  exact ⟨⟨us, g2, c2, bk3, rfl, by rw [hmap, List.take_of_length_le (by omega)], hacc, hfam, by omega, hg2⟩, E19⟩

theorem all_c (vs : List HVoy) (av : Option Addr) (bv ov cv : Nat) (w0 : World) (hs : Sl encHVoy 5 w0 av bv ov vs) (hruns : ∀ x ∈ vs, Sl encRun 6 w0 x.ao x.b x.o x.v.runs) (hvl : vs.length ≤ 1000000) (hrl : ∀ x ∈ vs, x.v.runs.length ≤ 1000000) :
    CallsV Try.prog 24 [.slice av vs.length cv] w0 (fun x w' => (∃ us ao' b' cap', x = .slice ao' us.length cap' ∧ us.map HVoy.v = vs.map HVoy.v ∧ Sl encHVoy 5 w' ao' b' 0 us ∧ ∀ x ∈ us, Sl encRun 6 w' x.ao x.b x.o x.v.runs) ∧ Ext w0 w') :=
  (allA_c vs av bv ov cv w0 hs hruns hvl hrl).mono fun _ _ ⟨⟨us, b, cap, _, h1, h2, h3, h4, _⟩, u⟩ => ⟨⟨us, _, b, cap, h1, h2, h3.sl (fun _ => rfl), fun x hx => (h4 x hx).1⟩, u⟩

end Go.Proofs.Ytmicjleiheoieaa
