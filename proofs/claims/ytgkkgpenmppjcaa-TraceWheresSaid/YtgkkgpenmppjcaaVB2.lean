/-
  The reference's taken. Conditions: none.
-/
import Derived.Test.YtgkkgpenmppjcaaVB1
namespace Go.Proofs.Ytgkkgpenmppjcaa
open Go Go.RowKit

theorem Acc.len_le {α : Type} {enc : α → List Value} {k : Nat} {e : TypeId} {base : Nat} {w : World} {ao : Option Addr} {g cap : Nat} {xs : List α} (h : Acc enc k e base w ao g cap xs) : xs.length ≤ cap := by
  rcases h.at_ with ⟨_, h2, _⟩ | ⟨_, _, _, _, h4, _⟩
  · subst h2; exact Nat.zero_le _
  · exact h4
/-- Layers whose paths are those of other layers. -/
def FromL (xs ys : List HLay) : Prop := ∀ y ∈ ys, ∃ x ∈ xs, y.ao = x.ao ∧ y.b = x.b ∧ y.v.path = x.v.path
theorem FromL.refl (xs : List HLay) : FromL xs xs := fun y hy => ⟨y, hy, rfl, rfl, rfl⟩
theorem FromL.nil (xs : List HLay) : FromL xs [] := fun y hy => by cases hy
theorem FromL.take {xs ys : List HLay} (h : FromL xs ys) (n : Nat) : FromL xs (ys.take n) := fun y hy => h y (List.mem_of_mem_take hy)
theorem FromL.snoc {xs ys zs : List HLay} (h : FromL xs zs) (h2 : FromL xs ys) {k : Nat} (hk : k < ys.length) (b t : Int) : FromL xs (zs ++ [⟨⟨b, t, (nth ys k).v.path⟩, (nth ys k).ao, (nth ys k).b, (nth ys k).cap⟩]) := fun y hy => by
  rcases List.mem_append.1 hy with hy | hy
  · exact h y hy
  · have : y = ⟨⟨b, t, (nth ys k).v.path⟩, (nth ys k).ao, (nth ys k).b, (nth ys k).cap⟩ := by simpa using hy
    subst this
    exact h2 (nth ys k) (nth_mem hk)
theorem FromL.rows {xs ys : List HLay} {w w' : World} {ao : Option Addr} {g : Nat} (h : FromL xs ys) (hp : ∀ x ∈ xs, Sl encI 1 w x.ao x.b 0 x.v.path) (u : Ext w w') (hs : Sl encHLay 3 w' ao g 0 ys) : LaysR w' ao g ys := ⟨hs, fun y hy => by
  obtain ⟨x, hx, e1, e2, e3⟩ := h y hy
  rw [e1, e2, e3]
  exact (hp x hx).keep u (fun _ h => h)⟩
/-- What is left to take, and what was taken. -/
structure TakI (xs le pa : List HLay) (t t' : Int) : Prop where
  eq : takV (xs.map HLay.v) t = ((takV (le.map HLay.v) t').1, pa.map HLay.v ++ (takV (le.map HLay.v) t').2)
  rng : 0 ≤ t' ∧ t' ≤ sumT (le.map HLay.v)
  up : t' ≤ t
  tons : ∀ x ∈ le, 1 ≤ x.v.tons ∧ x.v.tons ≤ 1000000
  fle : FromL xs le
  fpa : FromL xs pa
  len : pa.length + le.length ≤ xs.length ∨ (t' = 0 ∧ pa.length + le.length ≤ xs.length + 1)
theorem TakI.first {xs : List HLay} {t : Int} (h0 : 0 ≤ t) (h1 : t ≤ sumT (xs.map HLay.v)) (ht : ∀ x ∈ xs, 1 ≤ x.v.tons ∧ x.v.tons ≤ 1000000) : TakI xs xs [] t t :=
  ⟨by simp, ⟨h0, h1⟩, Int.le_refl _, ht, FromL.refl _, FromL.nil _, .inl (by simp)⟩
theorem TakI.pos {xs le pa : List HLay} {t t' : Int} (h : TakI xs le pa t t') (ht : 0 < t') : 0 < le.length := by
  rcases Nat.eq_zero_or_pos le.length with h0 | h0
  · have e : le = [] := List.length_eq_zero_iff.1 h0
    have h1 := h.rng
    rw [e] at h1; simp [sumT] at h1; omega
  · exact h0
theorem last_map {le : List HLay} (h : 0 < le.length) : le.map HLay.v = (le.take (le.length - 1)).map HLay.v ++ [(nth le (le.length - 1)).v] := calc
  le.map HLay.v = (le.take (le.length - 1) ++ [topL le]).map HLay.v := by rw [← last_split h]
  _ = _ := by rw [List.map_append]; rfl
theorem TakI.full {xs le pa : List HLay} {t t' : Int} (h : TakI xs le pa t t') (ht : 0 < t') (hf : ¬ min t' (nth le (le.length - 1)).v.tons < (nth le (le.length - 1)).v.tons) :
    TakI xs (le.take (le.length - 1)) (pa ++ [⟨⟨(nth le (le.length - 1)).v.bill, min t' (nth le (le.length - 1)).v.tons, (nth le (le.length - 1)).v.path⟩, (nth le (le.length - 1)).ao, (nth le (le.length - 1)).b, (nth le (le.length - 1)).cap⟩]) t (t' - min t' (nth le (le.length - 1)).v.tons) := by
  have hp := h.pos ht
  have hx := h.tons _ (nth_mem (xs := le) (i := le.length - 1) (by omega))
  have hm : min t' (nth le (le.length - 1)).v.tons = (nth le (le.length - 1)).v.tons := by omega
  have hr := h.rng
  rw [last_map hp, sumT_snoc] at hr
  have he := h.eq
  rw [last_map hp, takV_pop ht (by omega)] at he
  have hl := h.len
  rw [hm]
  have hup := h.up
  refine ⟨by rw [he]; simp, by omega, by omega, fun x hx => h.tons x (List.mem_of_mem_take hx), h.fle.take _, h.fpa.snoc h.fle (by omega) _ _, .inl ?_⟩
  rw [List.length_append, List.length_singleton, List.length_take]; omega
theorem TakI.part {xs le pa : List HLay} {t t' : Int} (h : TakI xs le pa t t') (ht : 0 < t') (hf : min t' (nth le (le.length - 1)).v.tons < (nth le (le.length - 1)).v.tons) :
    TakI xs (le.take (le.length - 1) ++ [⟨⟨(nth le (le.length - 1)).v.bill, (nth le (le.length - 1)).v.tons - min t' (nth le (le.length - 1)).v.tons, (nth le (le.length - 1)).v.path⟩, (nth le (le.length - 1)).ao, (nth le (le.length - 1)).b, (nth le (le.length - 1)).cap⟩])
      (pa ++ [⟨⟨(nth le (le.length - 1)).v.bill, min t' (nth le (le.length - 1)).v.tons, (nth le (le.length - 1)).v.path⟩, (nth le (le.length - 1)).ao, (nth le (le.length - 1)).b, (nth le (le.length - 1)).cap⟩]) t (t' - min t' (nth le (le.length - 1)).v.tons) := by
  have hp := h.pos ht
  have hx := h.tons _ (nth_mem (xs := le) (i := le.length - 1) (by omega))
  have hm : min t' (nth le (le.length - 1)).v.tons = t' := by omega
  have he := h.eq
  rw [last_map hp, takV_part ht (by omega)] at he
  have hl := h.len
  have hr := h.rng
  rw [hm, Int.sub_self]
  have hnn : ∀ l : List HLay, (∀ x ∈ l, 1 ≤ x.v.tons ∧ x.v.tons ≤ 1000000) → 0 ≤ sumT (l.map HLay.v) := fun l hl => (sumT_rng (B := 1000000) (fun x hx => by obtain ⟨y, hy, rfl⟩ := List.mem_map.1 hx; have := hl y hy; omega)).1
  have htn : ∀ x ∈ le.take (le.length - 1) ++ [(⟨⟨(nth le (le.length - 1)).v.bill, (nth le (le.length - 1)).v.tons - t', (nth le (le.length - 1)).v.path⟩, (nth le (le.length - 1)).ao, (nth le (le.length - 1)).b, (nth le (le.length - 1)).cap⟩ : HLay)], 1 ≤ x.v.tons ∧ x.v.tons ≤ 1000000 := fun x hx2 => by
    rcases List.mem_append.1 hx2 with hx2 | hx2
    · exact h.tons x (List.mem_of_mem_take hx2)
    · have : x = ⟨⟨(nth le (le.length - 1)).v.bill, (nth le (le.length - 1)).v.tons - t', (nth le (le.length - 1)).v.path⟩, (nth le (le.length - 1)).ao, (nth le (le.length - 1)).b, (nth le (le.length - 1)).cap⟩ := by simpa using hx2
      subst this
      show 1 ≤ (nth le (le.length - 1)).v.tons - t' ∧ (nth le (le.length - 1)).v.tons - t' ≤ 1000000
      omega
  refine ⟨by rw [he, takV_zero _ 0 (Int.le_refl _)]; simp, ⟨Int.le_refl _, hnn _ htn⟩, by have := h.up; omega, htn, (h.fle.take _).snoc h.fle (by omega) _ _, h.fpa.snoc h.fle (by omega) _ _, .inr ⟨rfl, ?_⟩⟩
  simp only [List.length_append, List.length_singleton, List.length_take]; omega
theorem own76 : Own Try.prog 76 := ⟨Try.f76, Try.func76, by kernel_rfl, by kernel_rfl⟩

set_option maxHeartbeats 2000000 in
theorem taken_c (xs : List HLay) (ao : Option Addr) (b o cap : Nat) (t : Int) (w0 : World) (hs : Sl encHLay 3 w0 ao b o xs) (hp : ∀ x ∈ xs, Sl encI 1 w0 x.ao x.b 0 x.v.path) (hl : xs.length ≤ 1000000) (ht : ∀ x ∈ xs, 1 ≤ x.v.tons ∧ x.v.tons ≤ 1000000) (ht0 : 0 ≤ t) (ht1 : t ≤ sumT (xs.map HLay.v)) (hts : sumT (xs.map HLay.v) ≤ 1000000) :
    CallsV Try.prog 76 [.slice ao xs.length cap, .int .i64 t] w0 (fun v w' => ∃ ao1 g1 c1 ys ao2 g2 c2 zs, v = .tuple #[.slice ao1 (List.length ys) c1, .slice ao2 (List.length zs) c2] ∧ ys.map HLay.v = (takV (xs.map HLay.v) t).1 ∧ zs.map HLay.v = (takV (xs.map HLay.v) t).2 ∧ LaysR w' ao1 g1 ys ∧ LaysR w' ao2 g2 zs ∧ FromL xs ys ∧ FromL xs zs ∧ w0.heap.size ≤ g1 ∧ w0.heap.size ≤ g2 ∧ Ext w0 w') := by
 refine f_enter (N := 61) Try.func76 rfl rfl rfl (c_seq fun K1 hK1 => (c_region (t_assign rfl rfl rfl (t_assign rfl rfl rfl (t_nil' (hK1 _ _ (c_seq fun K2 hK2 => (c_region (t_bslice (ps := []) (cs := []) (e := 97) rfl rfl ⟨rfl, rfl⟩ (fun w => by kernel_rfl) (fun bk3 w4 ebk3 sbk3 B5 u6 => ?_))))))))))
 have zu6 := u6.size
 have E7 := (Upd.refl (fun _ => False) w0).nx u6
 refine t_move rfl rfl rfl (t_copy (enc := encHLay) (z := .agg #[.int .i64 0, .int .i64 0, .slice none 0 0]) (bytes := 40) (k := 3) (ys := xs) Try.underlying36 (by kernel_rfl) rfl (by decide) (fun _ => rfl) (by intro x; simp [encHLay, Value.oneCell']) rfl rfl rfl rfl B5 (hs.keep E7 (fun _ h => h)) (by omega) (by decide) (fun ao8 gb9 cp10 w11 A12 u13 gegb9 => ?_))
 have zu13 := u13.size
 have lt_gb9 := A12.lt
 refine t_bslice (ps := []) (cs := []) (e := 97) rfl rfl ⟨rfl, rfl⟩ (fun w => by kernel_rfl) (fun bk15 w16 ebk15 sbk15 B17 u18 => ?_)
 have zu18 := u18.size
 refine t_assign rfl rfl rfl (t_assign rfl rfl rfl (t_nil' (hK2 _ _ (c_seq fun K20 hK20 => (c_block ?_)))))
 have D21 := (A12.keep u18 (fun _ h => h))
 have hl6 := (D21).lt
 have hl7 := B17.lt
 have hac7 : Acc encHLay 3 97 bk15 w16 (some ⟨bk15, 0, none⟩) bk15 0 [] := Acc.ofBlk (xs := ([] : List HLay)) encHLay 3 (fun _ => rfl) B17 (Nat.le_refl _) (by decide)
 refine c_loop (γ := Int × Option Addr × Nat × Nat × List HLay × Option Addr × Nat × Nat × List HLay) (fun gg => [(1, .int .i64 gg.1), (6, .slice gg.2.1 gg.2.2.2.2.1.length gg.2.2.2.1), (7, .slice gg.2.2.2.2.2.1 gg.2.2.2.2.2.2.2.2.length gg.2.2.2.2.2.2.2.1)]) (fun gg w => Upd (fun i => i = gb9 ∨ i = bk15) w16 w ∧ (TakI xs gg.2.2.2.2.1 gg.2.2.2.2.2.2.2.2 t gg.1) ∧ (Acc encHLay 3 97 bk3 w gg.2.1 gg.2.2.1 gg.2.2.2.1 gg.2.2.2.2.1) ∧ (Acc encHLay 3 97 bk15 w gg.2.2.2.2.2.1 gg.2.2.2.2.2.2.1 gg.2.2.2.2.2.2.2.1 gg.2.2.2.2.2.2.2.2) ∧ (gg.2.2.1 = gb9 ∨ w16.heap.size ≤ gg.2.2.1) ∧ (gg.2.2.2.2.2.2.1 = bk15 ∨ w16.heap.size ≤ gg.2.2.2.2.2.2.1) ∧ (gg.2.2.1 ≠ gg.2.2.2.2.2.2.1)) (fun gg => gg.2.2.2.2.1.length + gg.1.toNat) (t, ao8, gb9, cp10, xs, some ⟨bk15, 0, none⟩, bk15, 0, []) ⟨rfl, rfl, rfl, trivial⟩ ⟨Upd.refl _ _, (TakI.first ht0 ht1 ht), D21, hac7, (.inl rfl), (.inl rfl), (by show gb9 ≠ bk15; omega)⟩ ?_
 intro gg w23 hW K22 hK22
 obtain ⟨t', ao6, g6, c6, le, ao7, g7, c7, pa⟩ := gg
 change WC _ _ _ _ _ _ [(1, .int .i64 t'), (6, .slice ao6 le.length c6), (7, .slice ao7 pa.length c7)] _
 change Upd (fun i => i = gb9 ∨ i = bk15) w16 w23 ∧ (TakI xs le pa t t') ∧ (Acc encHLay 3 97 bk3 w23 ao6 g6 c6 le) ∧ (Acc encHLay 3 97 bk15 w23 ao7 g7 c7 pa) ∧ (g6 = gb9 ∨ w16.heap.size ≤ g6) ∧ (g7 = bk15 ∨ w16.heap.size ≤ g7) ∧ (g6 ≠ g7) at hW
 obtain ⟨u24, I25, I26, I27, I28, I29, I30⟩ := hW
 have zu24 := u24.size
 have hI := I25; clear I25
 have hle := I26; clear I26
 have hpa := I27; clear I27
 have hg6 := I28; clear I28
 have hg7 := I29; clear I29
 have hg67 := I30; clear I30
 have lt_g6 := hle.lt
 have lt_g7 := hpa.lt
 have hr1 := hI.rng
 have hcnt : (le.length : Int) ≤ sumT (le.map HLay.v) := by
   have h := sumT_len (l := le.map HLay.v) (fun y hy => by obtain ⟨x, hx, rfl⟩ := List.mem_map.1 hy; exact (hI.tons x hx).1)
   rwa [List.length_map] at h
 have hln := hI.len
 have hup := hI.up
 refine c_seq fun K32 hK32 => (c_seq fun K33 hK33 => (c_region (t_move rfl rfl rfl (t_cmp rfl rfl rfl rfl rfl (t_nil' (hK33 _ _ (c_condp rfl (fun g15 => ?_) (fun g15 => ?_))))))))
 ·
  have hpos := hI.pos g15
  have hx1 := hI.tons _ (nth_mem (xs := le) (i := le.length - 1) (by omega))
  refine c_skip (hK32 _ _ (c_block (c_seq fun K34 hK34 => (c_region (t_move rfl rfl rfl (t_move rfl rfl rfl (t_len Try.underlying36 rfl rfl rfl rfl (t_ari rfl rfl rfl rfl rfl (by omega) ?_))))))))
  have i35 : (le.length - 1) < le.length := (by omega)
  refine t_index (j := (le.length - 1)) Try.underlying36 Try.sizeOf97 rfl rfl rfl rfl ((hle.sl (fun _ => rfl)).addr (by omega)) (by omega) i35 (t_loadN (vs := [.int .i64 ((nth le (le.length - 1)).v.bill), .int .i64 ((nth le (le.length - 1)).v.tons), .slice ((nth le (le.length - 1)).ao) (((nth le (le.length - 1)).v.path).length) ((nth le (le.length - 1)).cap)]) Try.isAgg97 Try.sizeOf97 rfl rfl rfl (((hle.sl (fun _ => rfl)).at_ (le.length - 1) (by omega)).sub 0 3) rfl (t_alloc (cs := [.int .i64 0, .int .i64 0, .slice none 0 0]) Try.zeroValue97 rfl rfl rfl (fun bk36 w37 ebk36 sbk36 B38 u39 => ?_)))
  have zu39 := u39.size
  refine t_st (vs := [.int .i64 ((nth le (le.length - 1)).v.bill), .int .i64 ((nth le (le.length - 1)).v.tons), .slice ((nth le (le.length - 1)).ao) (((nth le (le.length - 1)).v.path).length) ((nth le (le.length - 1)).cap)]) Try.sizeOf97 rfl rfl rfl B38 rfl rfl rfl rfl (fun w41 sw41 B43 u42 => ?_)
  have zu42 := u42.size
  have B43 : Blk w41 bk36 97 [.int .i64 ((nth le (le.length - 1)).v.bill), .int .i64 ((nth le (le.length - 1)).v.tons), .slice ((nth le (le.length - 1)).ao) (((nth le (le.length - 1)).v.path).length) ((nth le (le.length - 1)).cap)] := B43
  refine t_nil' (hK34 _ _ (c_seq fun K45 hK45 => (c_region (t_move rfl rfl rfl (t_field Try.underlying97 rfl Try.sizeOf3 (1) rfl rfl rfl rfl (t_load Try.isAgg3 rfl rfl rfl (B43.get rfl) (t_min rfl rfl rfl rfl (t_assign rfl rfl rfl (t_nil' (hK45 _ _ (c_seq fun K46 hK46 => (c_region (t_move rfl rfl rfl (t_field Try.underlying97 rfl Try.sizeOf3 (0) rfl rfl rfl rfl (t_load Try.isAgg3 rfl rfl rfl (B43.get rfl) (t_move rfl rfl rfl (t_field Try.underlying97 rfl Try.sizeOf45 (2) rfl rfl rfl rfl (t_load Try.isAgg45 rfl rfl rfl (B43.get rfl) (t_build (ps := [(0, .int .i64 ((nth le (le.length - 1)).v.bill)), (1, .int .i64 (min t' ((nth le (le.length - 1)).v.tons))), (2, .slice ((nth le (le.length - 1)).ao) (((nth le (le.length - 1)).v.path).length) ((nth le (le.length - 1)).cap))]) (v := .agg #[.int .i64 ((nth le (le.length - 1)).v.bill), .int .i64 (min t' ((nth le (le.length - 1)).v.tons)), .slice ((nth le (le.length - 1)).ao) (((nth le (le.length - 1)).v.path).length) ((nth le (le.length - 1)).cap)]) rfl rfl ⟨rfl, rfl⟩ (fun w => by kernel_rfl) (t_bslice (ps := [(0, .agg #[.int .i64 ((nth le (le.length - 1)).v.bill), .int .i64 (min t' ((nth le (le.length - 1)).v.tons)), .slice ((nth le (le.length - 1)).ao) (((nth le (le.length - 1)).v.path).length) ((nth le (le.length - 1)).cap)])]) (cs := [.int .i64 ((nth le (le.length - 1)).v.bill), .int .i64 (min t' ((nth le (le.length - 1)).v.tons)), .slice ((nth le (le.length - 1)).ao) (((nth le (le.length - 1)).v.path).length) ((nth le (le.length - 1)).cap)]) (e := 97) rfl rfl ⟨rfl, rfl⟩ (fun w => by kernel_rfl) (fun bk47 w48 ebk47 sbk47 B49 u50 => ?_)))))))))))))))))))))
  have zu50 := u50.size
  have D52 := (((hpa.keep u39 (fun _ h => h)).keep u42 (fun hb => show ¬ (g7 = bk36) by first | omega | assumption)).keep u50 (fun _ h => h))
  refine t_append (z := .agg #[.int .i64 0, .int .i64 0, .slice none 0 0]) (bytes := 40) (k := 3) (base := bk15) (⟨⟨(nth le (le.length - 1)).v.bill, (min t' ((nth le (le.length - 1)).v.tons)), (nth le (le.length - 1)).v.path⟩, (nth le (le.length - 1)).ao, (nth le (le.length - 1)).b, (nth le (le.length - 1)).cap⟩ : HLay) Try.underlying36 (by kernel_rfl) rfl (by decide) (fun _ => rfl) (by intro x; simp [encHLay, Value.oneCell']) rfl rfl rfl rfl D52 B49 (by omega) (by omega) (by decide) (fun ao53 gb54 cp55 w56 A57 u58 gegb54 lngb54 => ?_)
  have zu58 := u58.size
  have lt_gb54 := A57.lt
  refine t_assign rfl rfl rfl (t_nil' (hK46 _ _ (c_seq fun K60 hK60 => (c_drawn follows 10 [some (35, some (.int .i64 t')), some (36, some (.int .i64 (min t' ((nth le (le.length - 1)).v.tons)))), some (37, some (.int .i64 (t' - (min t' ((nth le (le.length - 1)).v.tons))))), some (38, some (.slice ao6 le.length c6)), some (39, some (.slice ao6 le.length c6)), some (40, some (.int .i64 (le.length : Int))), some (41, some (.int .i64 ((le.length : Int) - 1))), some (42, some (.slice (subAddr ao6 c6 0 3) (le.length - 1) c6)), some (1, some (.int .i64 (t' - (min t' ((nth le (le.length - 1)).v.tons))))), some (6, some (.slice (subAddr ao6 c6 0 3) (le.length - 1) c6))] [[],[],[0,1],[],[],[4],[5],[3,6],[2,0,1,2],[7,8,0,1,2,3,4,5,6,7,8]] (fun _ _ w => Upd (fun _ => False) w56 w) rfl rfl rfl (by kernel_rfl) (by kernel_rfl) (Upd.drew _).to ⟨?_, ?_, ?_, ?_, ?_, ?_, ?_, ?_, ?_, ?_, trivial⟩ ?_))))
  · exact pz rfl rfl rfl rfl fun _ _ _ h => h
  · exact pz rfl rfl rfl rfl fun _ _ _ h => h
  ·
   intro D ρ w61 hcD hnD hdD hW
   have zhW := hW.size
   refine ⟨_, kf_fr [35, 36], fun Lr => ?_⟩
   refine t_ari rfl rfl rfl rfl rfl (by omega) ?_
   exact dz rfl hW
  · exact pz rfl rfl rfl rfl fun _ _ _ h => h
  · exact pz rfl rfl rfl rfl fun _ _ _ h => h
  ·
   intro D ρ w64 hcD hnD hdD hW
   have zhW := hW.size
   refine ⟨_, kf_fr [39], fun Lr => ?_⟩
   refine t_len Try.underlying36 rfl rfl rfl rfl ?_
   exact dz rfl hW
  ·
   intro D ρ w67 hcD hnD hdD hW
   have zhW := hW.size
   refine ⟨_, kf_fr [40], fun Lr => ?_⟩
   refine t_ari rfl rfl rfl rfl rfl (by omega) ?_
   exact dz rfl hW
  ·
   intro D ρ w70 hcD hnD hdD hW
   have zhW := hW.size
   refine ⟨_, kf_fr [38, 41], fun Lr => ?_⟩
   refine t_sliceTo (le.length - 1) Try.underlying36 Try.sizeOf97 rfl rfl rfl rfl (by omega) (by have h := hle.len_le; omega) ?_
   exact dz rfl hW
  · exact pz rfl rfl rfl rfl fun _ _ _ h => h
  · exact pz rfl rfl rfl rfl fun _ _ _ h => h
  intro ρ w73 hW
  have u74 : Upd (fun _ => False) w56 w73 := hW
  have zu74 := u74.size
  refine QK.weak [(1, .int .i64 (t' - (min t' ((nth le (le.length - 1)).v.tons)))), (6, .slice (subAddr ao6 c6 0 3) (le.length - 1) c6), (7, .slice ao53 (((pa ++ [(⟨⟨(nth le (le.length - 1)).v.bill, (min t' ((nth le (le.length - 1)).v.tons)), (nth le (le.length - 1)).v.path⟩, (nth le (le.length - 1)).ao, (nth le (le.length - 1)).b, (nth le (le.length - 1)).cap⟩ : HLay)])).length) cp55), (8, .pointer (some ⟨bk36, 0, none⟩)), (9, .int .i64 (min t' ((nth le (le.length - 1)).v.tons)))] ⟨rfl, rfl, rfl, rfl, rfl, trivial⟩ (hK60 _ _ (c_seq fun K76 hK76 => (c_region (t_move rfl rfl rfl ?_))))
  have D77 := (((((hle.keep u39 (fun _ h => h)).keep u42 (fun hb => show ¬ (g6 = bk36) by first | omega | assumption)).keep u50 (fun _ h => h)).keep u58 (fun hb => show ¬ ((g6 = g7 ∧ bk15 ≤ g6)) by first | omega | assumption)).keep u74 (fun _ h => h))
  have hpop := (D77).take (fun _ => rfl) (le.length - 1)
  have hlt1 : (le.take (le.length - 1)).length = le.length - 1 := by rw [List.length_take]; omega
  have lt_g6 := hpop.lt
  refine t_same 6 (v := .slice ao6 ((le.take (le.length - 1)).length) c6) rfl (by rw [subAddr0, List.length_take, Nat.min_eq_left (Nat.sub_le _ _)]) (t_field Try.underlying97 rfl Try.sizeOf3 (1) rfl rfl rfl rfl ?_)
  have B78 := (((B43.kx u50).keep u58 (by omega)).kx u74)
  refine t_load Try.isAgg3 rfl rfl rfl (B78.get rfl) (t_cmp rfl rfl rfl rfl rfl (t_nil' (hK76 _ _ (c_condp rfl (fun g46 => ?_) (fun g46 => ?_)))))
  ·
   refine c_region (t_move rfl rfl rfl (t_field Try.underlying97 rfl Try.sizeOf3 (0) rfl rfl rfl rfl (t_load Try.isAgg3 rfl rfl rfl (B78.get rfl) (t_field Try.underlying97 rfl Try.sizeOf3 (1) rfl rfl rfl rfl (t_load Try.isAgg3 rfl rfl rfl (B78.get rfl) (t_move rfl rfl rfl (t_ari rfl rfl rfl rfl rfl (by omega) (t_field Try.underlying97 rfl Try.sizeOf45 (2) rfl rfl rfl rfl (t_load Try.isAgg45 rfl rfl rfl (B78.get rfl) (t_build (ps := [(0, .int .i64 ((nth le (le.length - 1)).v.bill)), (1, .int .i64 (((nth le (le.length - 1)).v.tons) - (min t' ((nth le (le.length - 1)).v.tons)))), (2, .slice ((nth le (le.length - 1)).ao) (((nth le (le.length - 1)).v.path).length) ((nth le (le.length - 1)).cap))]) (v := .agg #[.int .i64 ((nth le (le.length - 1)).v.bill), .int .i64 (((nth le (le.length - 1)).v.tons) - (min t' ((nth le (le.length - 1)).v.tons))), .slice ((nth le (le.length - 1)).ao) (((nth le (le.length - 1)).v.path).length) ((nth le (le.length - 1)).cap)]) rfl rfl ⟨rfl, rfl⟩ (fun w => by kernel_rfl) (t_bslice (ps := [(0, .agg #[.int .i64 ((nth le (le.length - 1)).v.bill), .int .i64 (((nth le (le.length - 1)).v.tons) - (min t' ((nth le (le.length - 1)).v.tons))), .slice ((nth le (le.length - 1)).ao) (((nth le (le.length - 1)).v.path).length) ((nth le (le.length - 1)).cap)])]) (cs := [.int .i64 ((nth le (le.length - 1)).v.bill), .int .i64 (((nth le (le.length - 1)).v.tons) - (min t' ((nth le (le.length - 1)).v.tons))), .slice ((nth le (le.length - 1)).ao) (((nth le (le.length - 1)).v.path).length) ((nth le (le.length - 1)).cap)]) (e := 97) rfl rfl ⟨rfl, rfl⟩ (fun w => by kernel_rfl) (fun bk79 w80 ebk79 sbk79 B81 u82 => ?_))))))))))))
   have zu82 := u82.size
   have D84 := (hpop.keep u82 (fun _ h => h))
   refine t_append (z := .agg #[.int .i64 0, .int .i64 0, .slice none 0 0]) (bytes := 40) (k := 3) (base := bk3) (⟨⟨(nth le (le.length - 1)).v.bill, (((nth le (le.length - 1)).v.tons) - (min t' ((nth le (le.length - 1)).v.tons))), (nth le (le.length - 1)).v.path⟩, (nth le (le.length - 1)).ao, (nth le (le.length - 1)).b, (nth le (le.length - 1)).cap⟩ : HLay) Try.underlying36 (by kernel_rfl) rfl (by decide) (fun _ => rfl) (by intro x; simp [encHLay, Value.oneCell']) rfl rfl rfl rfl D84 B81 (by omega) (by rw [List.length_take]; omega) (by decide) (fun ao85 gb86 cp87 w88 A89 u90 gegb86 lngb86 => ?_)
   have zu90 := u90.size
   have lt_gb86 := A89.lt
   refine t_assign rfl rfl rfl (t_nil' ?_)
   have D92 := (((A57.keep u74 (fun _ h => h)).keep u82 (fun _ h => h)).keep u90 (fun hb => show ¬ ((gb54 = g6 ∧ bk3 ≤ gb54)) by first | omega | assumption))
   exact hK22 ((t' - (min t' ((nth le (le.length - 1)).v.tons))), ao85, gb86, cp87, ((le.take (le.length - 1)) ++ [(⟨⟨(nth le (le.length - 1)).v.bill, (((nth le (le.length - 1)).v.tons) - (min t' ((nth le (le.length - 1)).v.tons))), (nth le (le.length - 1)).v.path⟩, (nth le (le.length - 1)).ao, (nth le (le.length - 1)).b, (nth le (le.length - 1)).cap⟩ : HLay)]), ao53, gb54, cp55, (pa ++ [(⟨⟨(nth le (le.length - 1)).v.bill, (min t' ((nth le (le.length - 1)).v.tons)), (nth le (le.length - 1)).v.path⟩, (nth le (le.length - 1)).ao, (nth le (le.length - 1)).b, (nth le (le.length - 1)).cap⟩ : HLay)])) _ _ (by show ((le.take (le.length - 1)) ++ [(⟨⟨(nth le (le.length - 1)).v.bill, (((nth le (le.length - 1)).v.tons) - (min t' ((nth le (le.length - 1)).v.tons))), (nth le (le.length - 1)).v.path⟩, (nth le (le.length - 1)).ao, (nth le (le.length - 1)).b, (nth le (le.length - 1)).cap⟩ : HLay)]).length + (t' - (min t' ((nth le (le.length - 1)).v.tons))).toNat < le.length + t'.toNat; omega) ⟨rfl, rfl, rfl, trivial⟩ ⟨(((((((u24.next u39 (fun _ _ h => h.elim)).next u42 (fun i hi h => by omega)).next u50 (fun _ _ h => h.elim)).next u58 (fun i hi h => by omega)).next u74 (fun _ _ h => h.elim)).next u82 (fun _ _ h => h.elim)).next u90 (fun i hi h => by omega)), (hI.part g15 g46), A89, D92, (by show gb86 = gb9 ∨ _ ≤ gb86; omega), (by show gb54 = bk15 ∨ _ ≤ gb54; omega), (by show gb86 ≠ gb54; omega)⟩
  refine c_skip ?_
  have D93 := (A57.keep u74 (fun _ h => h))
  exact hK22 ((t' - (min t' ((nth le (le.length - 1)).v.tons))), ao6, g6, c6, (le.take (le.length - 1)), ao53, gb54, cp55, (pa ++ [(⟨⟨(nth le (le.length - 1)).v.bill, (min t' ((nth le (le.length - 1)).v.tons)), (nth le (le.length - 1)).v.path⟩, (nth le (le.length - 1)).ao, (nth le (le.length - 1)).b, (nth le (le.length - 1)).cap⟩ : HLay)])) _ _ (by show (le.take (le.length - 1)).length + (t' - (min t' ((nth le (le.length - 1)).v.tons))).toNat < le.length + t'.toNat; omega) ⟨rfl, rfl, rfl, trivial⟩ ⟨(((((u24.next u39 (fun _ _ h => h.elim)).next u42 (fun i hi h => by omega)).next u50 (fun _ _ h => h.elim)).next u58 (fun i hi h => by omega)).next u74 (fun _ _ h => h.elim)), (hI.full g15 g46), hpop, D93, (by show g6 = gb9 ∨ _ ≤ g6; omega), (by show gb54 = bk15 ∨ _ ≤ gb54; omega), (by show g6 ≠ gb54; omega)⟩
 refine c_exit (hK20 _ _ (c_seq fun K94 hK94 => (c_region (t_move rfl rfl rfl (t_move rfl rfl rfl (t_assign rfl rfl rfl (t_assign rfl rfl rfl (t_nil' (hK94 _ _ (c_ret (f_ret2 (v1 := .slice ao6 le.length c6) (v2 := .slice ao7 pa.length c7) Try.results76 rfl rfl ?_)))))))))))
 have hz : t' = 0 := by omega
 have heq := hI.eq
 rw [hz, takV_zero _ 0 (Int.le_refl _), List.append_nil] at heq
 have hu9 := (((E7.next u13 (fun i hi h => by omega)).nx u18).next u24 (fun i hi h => by omega))
 exact ⟨ao6, g6, c6, le, ao7, g7, c7, pa, rfl, by rw [heq], by rw [heq], hI.fle.rows hp hu9 (hle.sl (fun _ => rfl)), hI.fpa.rows hp hu9 (hpa.sl (fun _ => rfl)), hI.fle, hI.fpa, by omega, by omega, hu9⟩

end Go.Proofs.Ytgkkgpenmppjcaa
