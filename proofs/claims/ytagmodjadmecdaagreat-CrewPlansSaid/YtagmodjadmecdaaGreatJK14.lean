/-
  Part 14 of the proof: contracts and plain laws. Conditions: none.
-/
import Derived.Test.YtagmodjadmecdaaGreatJK13
namespace Go.Proofs.YtagmodjadmecdaaGreat
open Go Go.RowKit Tryz

structure SlrC (base : Nat) (w : World) (h : HS) : Prop where
  hp : ∃ b, base ≤ b ∧ Acc encPpr 2 136 b w h.ap h.bp h.cp h.ps
  op : h.op = 0
  hd : ∃ b, base ≤ b ∧ Acc encDty 4 37 b w h.ad h.bd h.cd h.ds
  od : h.od = 0
  hpl : h.ps.length ≤ 1000000
  hdl : h.ds.length ≤ 1000000
theorem SlrC.slrM {base : Nat} {w : World} {h : HS} (m : SlrC base w h) : SlrM w h := by
  obtain ⟨b, _, h1⟩ := m.hp
  obtain ⟨b2, _, h2⟩ := m.hd
  exact ⟨by rw [m.op]; exact h1.sl (fun _ => rfl), m.hpl, by rw [m.od]; exact h2.sl (fun _ => rfl), m.hdl⟩
theorem SlrC.upd {base : Nat} {w w' : World} {S : Nat → Prop} {h : HS} (m : SlrC base w h) (u : Upd S w w') (h1 : base ≤ h.bp → ∀ cs, Blk w h.bp 136 cs → ¬ S h.bp) (h2 : base ≤ h.bd → ∀ cs, Blk w h.bd 37 cs → ¬ S h.bd) : SlrC base w' h := by
  obtain ⟨b, hb, a⟩ := m.hp
  obtain ⟨b2, hb2, a2⟩ := m.hd
  exact ⟨⟨b, hb, a.keep u fun q => by obtain ⟨cs, hB⟩ := a.blkT q; exact h1 (by omega) cs hB⟩, m.op, ⟨b2, hb2, a2.keep u fun q => by obtain ⟨cs, hB⟩ := a2.blkT q; exact h2 (by omega) cs hB⟩, m.od, m.hpl, m.hdl⟩
theorem SlrC.ext {base : Nat} {w w' : World} {h : HS} (m : SlrC base w h) (u : Ext w w') : SlrC base w' h := m.upd u (fun _ _ _ q => q) (fun _ _ _ q => q)
theorem SlrC.low {base base' : Nat} {w : World} {h : HS} (m : SlrC base w h) (hb : base' ≤ base) : SlrC base' w h := by
  obtain ⟨b, hb1, a⟩ := m.hp
  obtain ⟨b2, hb2, a2⟩ := m.hd
  exact ⟨⟨b, by omega, a⟩, m.op, ⟨b2, by omega, a2⟩, m.od, m.hpl, m.hdl⟩
structure LstC (base : Nat) (w : World) (h : HL) : Prop where
  hx : ∃ b, base ≤ b ∧ Acc encI 1 3 b w h.ao h.b h.cap h.xs
  ho : h.o = 0
  hl : h.xs.length ≤ 1000000
theorem LstC.sl {base : Nat} {w : World} {h : HL} (m : LstC base w h) : Sl encI 1 w h.ao h.b h.o h.xs ∧ h.xs.length ≤ 1000000 := by
  obtain ⟨b, _, h1⟩ := m.hx
  exact ⟨by rw [m.ho]; exact h1.sl (fun _ => rfl), m.hl⟩
theorem LstC.upd {base : Nat} {w w' : World} {S : Nat → Prop} {h : HL} (m : LstC base w h) (u : Upd S w w') (h1 : base ≤ h.b → ∀ cs, Blk w h.b 3 cs → ¬ S h.b) : LstC base w' h := by
  obtain ⟨b, hb, a⟩ := m.hx
  exact ⟨⟨b, hb, a.keep u fun q => by obtain ⟨cs, hB⟩ := a.blkT q; exact h1 (by omega) cs hB⟩, m.ho, m.hl⟩
theorem LstC.ext {base : Nat} {w w' : World} {h : HL} (m : LstC base w h) (u : Ext w w') : LstC base w' h := m.upd u (fun _ _ _ q => q)
theorem LstC.low {base base' : Nat} {w : World} {h : HL} (m : LstC base w h) (hb : base' ≤ base) : LstC base' w h := by
  obtain ⟨b, hb1, a⟩ := m.hx
  exact ⟨⟨b, by omega, a⟩, m.ho, m.hl⟩
theorem Acc.notBlk {α : Type} {enc : α → List Value} {k : Nat} {e t : TypeId} {base b : Nat} {w : World} {ao : Option Addr} {g cap : Nat} {xs : List α} {cs : List Value} (h : Acc enc k e base w ao g cap xs) (hB : Blk w b t cs) (ht : e ≠ t) : ¬ (b = g ∧ base ≤ b) := fun q => by
  obtain ⟨q1, q2⟩ := q
  exact h.neBlk hB ht (q1 ▸ q2) q1.symm

def grtP (hs : List HS) (n : Nat) : Bool := (hs.any fun h => decide (15 < h.ps.length ∨ 25 < h.ds.length)) || decide (8 < hs.length ∨ 10 < n)
def hvyP (n m : Nat) : Bool := decide ((n ≤ 6 ∧ m ≤ 8) ∧ (4 < n ∨ 5 < m))
theorem grt_no {hs : List HS} {n : Nat} (h : grtP hs n = false) : hs.length ≤ 8 ∧ n ≤ 10 ∧ ∀ h ∈ hs, h.ps.length ≤ 15 ∧ h.ds.length ≤ 25 := by
  unfold grtP at h
  rw [Bool.or_eq_false_iff, decide_eq_false_iff_not, List.any_eq_false] at h
  exact ⟨by omega, by omega, fun x hx => by have := h.1 x hx; simp only [decide_eq_true_eq] at this; omega⟩

theorem own24 : Own Tryz.prog 24 := ⟨Tryz.f24, func24, by kernel_rfl, by kernel_rfl⟩
theorem own25 : Own Tryz.prog 25 := ⟨Tryz.f25, func25, by kernel_rfl, by kernel_rfl⟩
theorem own26 : Own Tryz.prog 26 := ⟨Tryz.f26, func26, by kernel_rfl, by kernel_rfl⟩
theorem own22 : Own Tryz.prog 22 := ⟨Tryz.f22, func22, by kernel_rfl, by kernel_rfl⟩
theorem own23 : Own Tryz.prog 23 := ⟨Tryz.f23, func23, by kernel_rfl, by kernel_rfl⟩
theorem own40 : Own Tryz.prog 40 := ⟨Tryz.f40, func40, by kernel_rfl, by kernel_rfl⟩
theorem own29 : Own Tryz.prog 29 := ⟨Tryz.f29, func29, by kernel_rfl, by kernel_rfl⟩

set_option maxHeartbeats 1000000 in
theorem sailors_c (hs : List HS) (al : Option Addr) (bl ol cl : Nat) (w0 : World) (hl : Sl encHS 4 w0 al bl ol hs) (hll : hs.length ≤ 1000000) (hsm : ∀ h ∈ hs, SlrM w0 h) (hpos : 0 < w0.heap.size) :
    CallsV Tryz.prog 24 [.slice al hs.length cl] w0 (fun v w' => (∃ ao g cp out, v = .slice ao (List.length out) cp ∧ Acc encHS 4 79 w0.heap.size w' ao g cp out ∧ out.map HS.slr = hs.map HS.slr ∧ ∀ h ∈ out, SlrC w0.heap.size w' h) ∧ Ext w0 w') := by
 refine f_enter (N := 31) func24 rfl rfl rfl (c_seq fun K1 hK1 => (c_region (t_assign rfl rfl rfl (t_nil' (hK1 _ _ (c_seq fun K2 hK2 => (c_region (t_bslice (ps := []) (cs := []) (e := 79) rfl rfl ⟨rfl, rfl⟩ (fun w => by kernel_rfl) (fun bk3 w4 ebk3 sbk3 B5 u6 => ?_)))))))))
 have zu6 := u6.size
 refine t_assign rfl rfl rfl (t_nil' (hK2 _ _ (c_seq fun K8 hK8 => (c_seq fun K9 hK9 => (c_region (t_assign rfl rfl rfl (t_nil' (hK9 _ _ (c_block (c_loop (γ := Nat × Option Addr × Nat × Nat × List HS) (fun gg => [(0, .slice al hs.length cl), (3, .slice gg.2.1 gg.2.2.2.2.length gg.2.2.2.1), (4, .int .i64 (gg.1 : Int))]) (fun gg w => Upd (fun i => bk3 ≤ i) w4 w ∧ (gg.1 ≤ hs.length) ∧ (Acc encHS 4 79 bk3 w gg.2.1 gg.2.2.1 gg.2.2.2.1 gg.2.2.2.2) ∧ (gg.2.2.2.2.map HS.slr = (hs.take gg.1).map HS.slr) ∧ (∀ h ∈ gg.2.2.2.2, SlrC bk3 w h)) (fun gg => hs.length - gg.1) (0, some ⟨bk3, 0, none⟩, bk3, 0, []) ⟨rfl, rfl, rfl, trivial⟩ ⟨Upd.refl _ _, (Nat.zero_le _), (Acc.ofRaw (cs := []) B5 (Nat.le_refl _) (Nat.le_refl _) (Nat.zero_le _) (by rfl) (by rfl)), rfl, (fun h hh => by cases hh)⟩ ?_))))))))))
 intro gg w11 hW K10 hK10
 obtain ⟨k, ao, go, co, out⟩ := gg
 change WC _ _ _ _ _ _ [(0, .slice al hs.length cl), (3, .slice ao out.length co), (4, .int .i64 (k : Int))] _
 change Upd (fun i => bk3 ≤ i) w4 w11 ∧ (k ≤ hs.length) ∧ (Acc encHS 4 79 bk3 w11 ao go co out) ∧ (out.map HS.slr = (hs.take k).map HS.slr) ∧ (∀ h ∈ out, SlrC bk3 w11 h) at hW
 obtain ⟨u12, I13, I14, I15, I16⟩ := hW
 have zu12 := u12.size
 have E17 := ((Upd.refl (fun _ => False) w0).nx u6).next u12 (fun i hi (h : bk3 ≤ i) => show False by first | omega | assumption)
 have hk := I13; clear I13
 have hout := I14; clear I14
 have hom := I15; clear I15
 have hoc := I16; clear I16
 have lt_go := hout.lt
 have hol : out.length = k := by have := congrArg List.length hom; simpa [List.length_take, Nat.min_eq_left hk] using this
 have hout0 := hout
 refine c_seq fun K18 hK18 => (c_seq fun K19 hK19 => (c_region (t_move rfl rfl rfl (t_move rfl rfl rfl (t_len underlying54 rfl rfl rfl rfl (t_cmp rfl rfl rfl rfl rfl (t_nil' (hK19 _ _ (c_condp rfl (fun g10 => ?_) (fun g10 => ?_))))))))))
 ·
  refine c_skip (hK18 _ _ (c_seq fun K20 hK20 => (c_block (c_seq fun K21 hK21 => (c_region (t_move rfl rfl rfl (t_move rfl rfl rfl ?_)))))))
  have i22 : k < hs.length := (by omega)
  refine t_index (j := k) underlying54 sizeOf79 rfl rfl rfl rfl ((hl.keep E17 (fun _ h => h)).addr (by omega)) rfl i22 (t_loadN (vs := [.int .i64 ((nth hs k).f), .int .i64 ((nth hs k).u), .slice ((nth hs k).ap) ((nth hs k).ps.length) ((nth hs k).cp), .slice ((nth hs k).ad) ((nth hs k).ds.length) ((nth hs k).cd)]) isAgg79 sizeOf79 rfl rfl rfl (((hl.keep E17 (fun _ h => h)).at_ k (by omega)).sub 0 4) rfl (t_alloc (cs := [.int .i64 0, .int .i64 0, .slice none 0 0, .slice none 0 0]) zeroValue79 rfl rfl rfl (fun bk23 w24 ebk23 sbk23 B25 u26 => ?_)))
  have zu26 := u26.size
  refine t_st (vs := [.int .i64 ((nth hs k).f), .int .i64 ((nth hs k).u), .slice ((nth hs k).ap) ((nth hs k).ps.length) ((nth hs k).cp), .slice ((nth hs k).ad) ((nth hs k).ds.length) ((nth hs k).cd)]) sizeOf79 rfl rfl rfl B25 rfl rfl rfl rfl (fun w28 sw28 B30 u29 => ?_)
  have zu29 := u29.size
  have B30 : Blk w28 bk23 79 [.int .i64 ((nth hs k).f), .int .i64 ((nth hs k).u), .slice ((nth hs k).ap) ((nth hs k).ps.length) ((nth hs k).cp), .slice ((nth hs k).ad) ((nth hs k).ds.length) ((nth hs k).cd)] := B30
  refine t_nil' (hK21 _ _ (c_cut (γ := Option Addr × Nat × Nat × Nat × Option Addr × Nat × Nat × Nat) (fun gg => [(0, .slice al hs.length cl), (3, .slice ao out.length co), (4, .int .i64 (k : Int)), (5, .pointer (some ⟨bk23, 0, none⟩))]) (fun gg w => Upd (fun i => i = bk23) w28 w ∧ Blk w bk23 79 [.int .i64 ((nth hs k).f), .int .i64 ((nth hs k).u), .slice gg.1 ((nth hs k).ps.length) gg.2.2.1, .slice gg.2.2.2.2.1 ((nth hs k).ds.length) gg.2.2.2.2.2.2.1] ∧ (Acc encPpr 2 136 gg.2.2.2.1 w gg.1 gg.2.1 gg.2.2.1 (nth hs k).ps) ∧ (w28.heap.size ≤ gg.2.2.2.1) ∧ (Acc encDty 4 37 gg.2.2.2.2.2.2.2 w gg.2.2.2.2.1 gg.2.2.2.2.2.1 gg.2.2.2.2.2.2.1 (nth hs k).ds) ∧ (w28.heap.size ≤ gg.2.2.2.2.2.2.2)) (fun K33 hK33 => ?_) ?_))
  ·
   refine c_drawnM follows (fun i => i = bk23) (.look 1 (.look 4 (.act 0 (.act 2 (.act 3 (.act 5 (.look 7 (.act 6 (.act 8 (.look 9 (.act 10 .done .stop)) .stop) .stop)) .stop) (.act 5 (.act 3 (.look 7 (.act 6 (.act 8 (.look 9 (.act 10 .done .stop)) .stop) .stop)) .stop) .stop)) (.act 5 (.act 2 (.act 3 (.look 7 (.act 6 (.act 8 (.look 9 (.act 10 .done .stop)) .stop) .stop)) .stop) .stop) .stop)) (.act 2 (.act 0 (.act 3 (.act 5 (.look 7 (.act 6 (.act 8 (.look 9 (.act 10 .done .stop)) .stop) .stop)) .stop) (.act 5 (.act 3 (.look 7 (.act 6 (.act 8 (.look 9 (.act 10 .done .stop)) .stop) .stop)) .stop) .stop)) (.act 5 (.act 0 (.act 3 (.look 7 (.act 6 (.act 8 (.look 9 (.act 10 .done .stop)) .stop) .stop)) .stop) .stop) .stop)) (.act 5 (.act 0 (.act 2 (.act 3 (.look 7 (.act 6 (.act 8 (.look 9 (.act 10 .done .stop)) .stop) .stop)) .stop) .stop) (.act 2 (.act 0 (.act 3 (.look 7 (.act 6 (.act 8 (.look 9 (.act 10 .done .stop)) .stop) .stop)) .stop) .stop) .stop)) .stop))))) (by kernel_rfl) fun w36 u37 => ?_
   have zu37 := u37.size
   have E38 := ((E17.nx u26).next u29 (fun i hi h => by omega)).nx u37
   refine y_field underlying79 rfl sizeOf77 (2) rfl rfl rfl rfl (y_field underlying79 rfl sizeOf24 (3) rfl rfl rfl rfl (s_or ?_ ?_))
   ·
    refine s_do (t_bslice (ps := []) (cs := []) (e := 136) rfl rfl ⟨rfl, rfl⟩ (fun w => by kernel_rfl) (fun bk39 w40 ebk39 sbk39 B41 u42 => ?_))
    have zu42 := u42.size
    have E43 := E38.nx u42
    refine s_next ((Upd.refl _ _).nx u42) (s_or ?_ ?_)
    ·
     refine s_do ?_
     have B44 := ((B30.kx u37).kx u42)
     refine t_load isAgg77 rfl rfl rfl (B44.get rfl) (s_next (Upd.refl _ _) (s_or ?_ ?_))
     ·
      refine s_do (t_copy (enc := encPpr) (z := .agg #[.int .i64 0, .int .i64 0]) (bytes := 16) (k := 2) (ys := (nth hs k).ps) underlying77 (by kernel_rfl) rfl (by decide) (fun _ => rfl) (by intro x; simp [encPpr, Value.oneCell']) rfl rfl rfl rfl B41 ((hsm (nth hs k) (nth_mem (by omega))).hp.keep E43 (fun _ => fun h => h)) (hsm (nth hs k) (nth_mem (by omega))).hpl (by decide) (fun ao45 gb46 cp47 w48 A49 u50 gegb46 => ?_))
      have zu50 := u50.size
      have lt_gb46 := A49.lt
      refine s_next ((Upd.refl _ _).next u50 (fun i hi (h : (i = bk39 ∧ bk39 ≤ i)) => show w36.heap.size ≤ i ∨ (i = bk23) by first | omega | exact .inr h)) (s_do ?_)
      have B52 := (B44.keep u50 (by omega))
      refine t_load isAgg24 rfl rfl rfl (B52.get rfl) (s_next (Upd.refl _ _) (y_field underlying79 rfl sizeOf77 (2) rfl rfl rfl rfl (s_do (t_call own9 rfl rfl rfl rfl (duties_c ((nth hs k).ds) ((nth hs k).ad) (nth hs k).bd ((nth hs k).od) ((nth hs k).cd) _ ((hsm (nth hs k) (nth_mem (by omega))).hd.keep (E43.next u50 (fun i hi h => by omega)) (fun _ => fun h => h)) (hsm (nth hs k) (nth_mem (by omega))).hdl (by omega)) (fun v54 w55 r57 => ?_)))))
      obtain ⟨⟨aoY53, gY53, cY53, rfl, haY53⟩, u56⟩ := r57
      have zu56 := u56.size
      have lt_gY53 := haY53.lt
      refine s_next ((Upd.refl _ _).nx u56) (s_do ?_)
      have B59 := (B52.kx u56)
      refine t_st (vs := [.slice ao45 (((nth hs k).ps).length) cp47]) sizeOf77 rfl rfl rfl B59 rfl rfl rfl rfl (fun w60 sw60 B62 u61 => ?_)
      have zu61 := u61.size
      have B62 : Blk w60 bk23 79 [.int .i64 ((nth hs k).f), .int .i64 ((nth hs k).u), .slice ao45 (((nth hs k).ps).length) cp47, .slice ((nth hs k).ad) ((nth hs k).ds.length) ((nth hs k).cd)] := B62
      refine s_next ((Upd.refl _ _).next u61 (fun i hi (h : i = bk23) => show w36.heap.size ≤ i ∨ (i = bk23) by first | omega | exact .inr h)) (y_field underlying79 rfl sizeOf24 (3) rfl rfl rfl rfl (s_do (t_st (vs := [.slice aoY53 (((nth hs k).ds).length) cY53]) sizeOf24 rfl rfl rfl B62 rfl rfl rfl rfl (fun w64 sw64 B66 u65 => ?_))))
      have zu65 := u65.size
      have B66 : Blk w64 bk23 79 [.int .i64 ((nth hs k).f), .int .i64 ((nth hs k).u), .slice ao45 (((nth hs k).ps).length) cp47, .slice aoY53 (((nth hs k).ds).length) cY53] := B66
      refine s_next ((Upd.refl _ _).next u65 (fun i hi (h : i = bk23) => show w36.heap.size ≤ i ∨ (i = bk23) by first | omega | exact .inr h)) (s_nil ?_)
      have D68 := (((A49.kE u56).keep u61 (fun hb => show ¬ (gb46 = bk23) by first | omega | assumption)).keep u65 (fun hb => show ¬ (gb46 = bk23) by first | omega | assumption))
      have D69 := ((haY53.keep u61 (fun hb => show ¬ (gY53 = bk23) by first | omega | assumption)).keep u65 (fun hb => show ¬ (gY53 = bk23) by first | omega | assumption))
      exact hK33 (ao45, gb46, cp47, bk39, aoY53, gY53, cY53, w48.heap.size) _ _ ⟨rfl, rfl, rfl, rfl, trivial⟩ ⟨(((((((Upd.refl _ _).nx u37).nx u42).next u50 (fun i hi h => by omega)).nx u56).next u61 (fun i hi h => by omega)).next u65 (fun i hi h => by omega)), B66, D68, (by show w28.heap.size ≤ bk39; omega), D69, (by show w28.heap.size ≤ w48.heap.size; omega)⟩
     refine s_do (t_load isAgg24 rfl rfl rfl (B44.get rfl) (s_next (Upd.refl _ _) (s_do (t_copy (enc := encPpr) (z := .agg #[.int .i64 0, .int .i64 0]) (bytes := 16) (k := 2) (ys := (nth hs k).ps) underlying77 (by kernel_rfl) rfl (by decide) (fun _ => rfl) (by intro x; simp [encPpr, Value.oneCell']) rfl rfl rfl rfl B41 ((hsm (nth hs k) (nth_mem (by omega))).hp.keep E43 (fun _ => fun h => h)) (hsm (nth hs k) (nth_mem (by omega))).hpl (by decide) (fun ao70 gb71 cp72 w73 A74 u75 gegb71 => ?_)))))
     have zu75 := u75.size
     have lt_gb71 := A74.lt
     refine s_next ((Upd.refl _ _).next u75 (fun i hi (h : (i = bk39 ∧ bk39 ≤ i)) => show w36.heap.size ≤ i ∨ (i = bk23) by first | omega | exact .inr h)) (y_field underlying79 rfl sizeOf77 (2) rfl rfl rfl rfl (s_do (t_call own9 rfl rfl rfl rfl (duties_c ((nth hs k).ds) ((nth hs k).ad) (nth hs k).bd ((nth hs k).od) ((nth hs k).cd) _ ((hsm (nth hs k) (nth_mem (by omega))).hd.keep (E43.next u75 (fun i hi h => by omega)) (fun _ => fun h => h)) (hsm (nth hs k) (nth_mem (by omega))).hdl (by omega)) (fun v78 w79 r81 => ?_))))
     obtain ⟨⟨aoY77, gY77, cY77, rfl, haY77⟩, u80⟩ := r81
     have zu80 := u80.size
     have lt_gY77 := haY77.lt
     refine s_next ((Upd.refl _ _).nx u80) (s_do ?_)
     have B83 := ((B44.keep u75 (by omega)).kx u80)
     refine t_st (vs := [.slice ao70 (((nth hs k).ps).length) cp72]) sizeOf77 rfl rfl rfl B83 rfl rfl rfl rfl (fun w84 sw84 B86 u85 => ?_)
     have zu85 := u85.size
     have B86 : Blk w84 bk23 79 [.int .i64 ((nth hs k).f), .int .i64 ((nth hs k).u), .slice ao70 (((nth hs k).ps).length) cp72, .slice ((nth hs k).ad) ((nth hs k).ds.length) ((nth hs k).cd)] := B86
     refine s_next ((Upd.refl _ _).next u85 (fun i hi (h : i = bk23) => show w36.heap.size ≤ i ∨ (i = bk23) by first | omega | exact .inr h)) (y_field underlying79 rfl sizeOf24 (3) rfl rfl rfl rfl (s_do (t_st (vs := [.slice aoY77 (((nth hs k).ds).length) cY77]) sizeOf24 rfl rfl rfl B86 rfl rfl rfl rfl (fun w88 sw88 B90 u89 => ?_))))
     have zu89 := u89.size
     have B90 : Blk w88 bk23 79 [.int .i64 ((nth hs k).f), .int .i64 ((nth hs k).u), .slice ao70 (((nth hs k).ps).length) cp72, .slice aoY77 (((nth hs k).ds).length) cY77] := B90
     refine s_next ((Upd.refl _ _).next u89 (fun i hi (h : i = bk23) => show w36.heap.size ≤ i ∨ (i = bk23) by first | omega | exact .inr h)) (s_nil ?_)
     have D92 := (((A74.kE u80).keep u85 (fun hb => show ¬ (gb71 = bk23) by first | omega | assumption)).keep u89 (fun hb => show ¬ (gb71 = bk23) by first | omega | assumption))
     have D93 := ((haY77.keep u85 (fun hb => show ¬ (gY77 = bk23) by first | omega | assumption)).keep u89 (fun hb => show ¬ (gY77 = bk23) by first | omega | assumption))
     exact hK33 (ao70, gb71, cp72, bk39, aoY77, gY77, cY77, w73.heap.size) _ _ ⟨rfl, rfl, rfl, rfl, trivial⟩ ⟨(((((((Upd.refl _ _).nx u37).nx u42).next u75 (fun i hi h => by omega)).nx u80).next u85 (fun i hi h => by omega)).next u89 (fun i hi h => by omega)), B90, D92, (by show w28.heap.size ≤ bk39; omega), D93, (by show w28.heap.size ≤ w73.heap.size; omega)⟩
    refine s_do ?_
    have B94 := ((B30.kx u37).kx u42)
    refine t_load isAgg24 rfl rfl rfl (B94.get rfl) (s_next (Upd.refl _ _) (s_do (t_load isAgg77 rfl rfl rfl (B94.get rfl) (s_next (Upd.refl _ _) (s_do (t_copy (enc := encPpr) (z := .agg #[.int .i64 0, .int .i64 0]) (bytes := 16) (k := 2) (ys := (nth hs k).ps) underlying77 (by kernel_rfl) rfl (by decide) (fun _ => rfl) (by intro x; simp [encPpr, Value.oneCell']) rfl rfl rfl rfl B41 ((hsm (nth hs k) (nth_mem (by omega))).hp.keep E43 (fun _ => fun h => h)) (hsm (nth hs k) (nth_mem (by omega))).hpl (by decide) (fun ao95 gb96 cp97 w98 A99 u100 gegb96 => ?_)))))))
    have zu100 := u100.size
    have lt_gb96 := A99.lt
    refine s_next ((Upd.refl _ _).next u100 (fun i hi (h : (i = bk39 ∧ bk39 ≤ i)) => show w36.heap.size ≤ i ∨ (i = bk23) by first | omega | exact .inr h)) (y_field underlying79 rfl sizeOf77 (2) rfl rfl rfl rfl (s_do (t_call own9 rfl rfl rfl rfl (duties_c ((nth hs k).ds) ((nth hs k).ad) (nth hs k).bd ((nth hs k).od) ((nth hs k).cd) _ ((hsm (nth hs k) (nth_mem (by omega))).hd.keep (E43.next u100 (fun i hi h => by omega)) (fun _ => fun h => h)) (hsm (nth hs k) (nth_mem (by omega))).hdl (by omega)) (fun v103 w104 r106 => ?_))))
    obtain ⟨⟨aoY102, gY102, cY102, rfl, haY102⟩, u105⟩ := r106
    have zu105 := u105.size
    have lt_gY102 := haY102.lt
    refine s_next ((Upd.refl _ _).nx u105) (s_do ?_)
    have B108 := ((B94.keep u100 (by omega)).kx u105)
    refine t_st (vs := [.slice ao95 (((nth hs k).ps).length) cp97]) sizeOf77 rfl rfl rfl B108 rfl rfl rfl rfl (fun w109 sw109 B111 u110 => ?_)
    have zu110 := u110.size
    have B111 : Blk w109 bk23 79 [.int .i64 ((nth hs k).f), .int .i64 ((nth hs k).u), .slice ao95 (((nth hs k).ps).length) cp97, .slice ((nth hs k).ad) ((nth hs k).ds.length) ((nth hs k).cd)] := B111
    refine s_next ((Upd.refl _ _).next u110 (fun i hi (h : i = bk23) => show w36.heap.size ≤ i ∨ (i = bk23) by first | omega | exact .inr h)) (y_field underlying79 rfl sizeOf24 (3) rfl rfl rfl rfl (s_do (t_st (vs := [.slice aoY102 (((nth hs k).ds).length) cY102]) sizeOf24 rfl rfl rfl B111 rfl rfl rfl rfl (fun w113 sw113 B115 u114 => ?_))))
    have zu114 := u114.size
    have B115 : Blk w113 bk23 79 [.int .i64 ((nth hs k).f), .int .i64 ((nth hs k).u), .slice ao95 (((nth hs k).ps).length) cp97, .slice aoY102 (((nth hs k).ds).length) cY102] := B115
    refine s_next ((Upd.refl _ _).next u114 (fun i hi (h : i = bk23) => show w36.heap.size ≤ i ∨ (i = bk23) by first | omega | exact .inr h)) (s_nil ?_)
    have D117 := (((A99.kE u105).keep u110 (fun hb => show ¬ (gb96 = bk23) by first | omega | assumption)).keep u114 (fun hb => show ¬ (gb96 = bk23) by first | omega | assumption))
    have D118 := ((haY102.keep u110 (fun hb => show ¬ (gY102 = bk23) by first | omega | assumption)).keep u114 (fun hb => show ¬ (gY102 = bk23) by first | omega | assumption))
    exact hK33 (ao95, gb96, cp97, bk39, aoY102, gY102, cY102, w98.heap.size) _ _ ⟨rfl, rfl, rfl, rfl, trivial⟩ ⟨(((((((Upd.refl _ _).nx u37).nx u42).next u100 (fun i hi h => by omega)).nx u105).next u110 (fun i hi h => by omega)).next u114 (fun i hi h => by omega)), B115, D117, (by show w28.heap.size ≤ bk39; omega), D118, (by show w28.heap.size ≤ w98.heap.size; omega)⟩
   refine s_or ?_ ?_
   ·
    refine s_do ?_
    have B119 := (B30.kx u37)
    refine t_load isAgg77 rfl rfl rfl (B119.get rfl) (s_next (Upd.refl _ _) (s_or ?_ ?_))
    ·
     refine s_do (t_bslice (ps := []) (cs := []) (e := 136) rfl rfl ⟨rfl, rfl⟩ (fun w => by kernel_rfl) (fun bk120 w121 ebk120 sbk120 B122 u123 => ?_))
     have zu123 := u123.size
     have E124 := E38.nx u123
     refine s_next ((Upd.refl _ _).nx u123) (s_or ?_ ?_)
     ·
      refine s_do (t_copy (enc := encPpr) (z := .agg #[.int .i64 0, .int .i64 0]) (bytes := 16) (k := 2) (ys := (nth hs k).ps) underlying77 (by kernel_rfl) rfl (by decide) (fun _ => rfl) (by intro x; simp [encPpr, Value.oneCell']) rfl rfl rfl rfl B122 ((hsm (nth hs k) (nth_mem (by omega))).hp.keep E124 (fun _ => fun h => h)) (hsm (nth hs k) (nth_mem (by omega))).hpl (by decide) (fun ao125 gb126 cp127 w128 A129 u130 gegb126 => ?_))
      have zu130 := u130.size
      have lt_gb126 := A129.lt
      refine s_next ((Upd.refl _ _).next u130 (fun i hi (h : (i = bk120 ∧ bk120 ≤ i)) => show w36.heap.size ≤ i ∨ (i = bk23) by first | omega | exact .inr h)) (s_do ?_)
      have B132 := ((B119.kx u123).keep u130 (by omega))
      refine t_load isAgg24 rfl rfl rfl (B132.get rfl) (s_next (Upd.refl _ _) (y_field underlying79 rfl sizeOf77 (2) rfl rfl rfl rfl (s_do (t_call own9 rfl rfl rfl rfl (duties_c ((nth hs k).ds) ((nth hs k).ad) (nth hs k).bd ((nth hs k).od) ((nth hs k).cd) _ ((hsm (nth hs k) (nth_mem (by omega))).hd.keep (E124.next u130 (fun i hi h => by omega)) (fun _ => fun h => h)) (hsm (nth hs k) (nth_mem (by omega))).hdl (by omega)) (fun v134 w135 r137 => ?_)))))
      obtain ⟨⟨aoY133, gY133, cY133, rfl, haY133⟩, u136⟩ := r137
      have zu136 := u136.size
      have lt_gY133 := haY133.lt
      refine s_next ((Upd.refl _ _).nx u136) (s_do ?_)
      have B139 := (B132.kx u136)
      refine t_st (vs := [.slice ao125 (((nth hs k).ps).length) cp127]) sizeOf77 rfl rfl rfl B139 rfl rfl rfl rfl (fun w140 sw140 B142 u141 => ?_)
      have zu141 := u141.size
      have B142 : Blk w140 bk23 79 [.int .i64 ((nth hs k).f), .int .i64 ((nth hs k).u), .slice ao125 (((nth hs k).ps).length) cp127, .slice ((nth hs k).ad) ((nth hs k).ds.length) ((nth hs k).cd)] := B142
      refine s_next ((Upd.refl _ _).next u141 (fun i hi (h : i = bk23) => show w36.heap.size ≤ i ∨ (i = bk23) by first | omega | exact .inr h)) (y_field underlying79 rfl sizeOf24 (3) rfl rfl rfl rfl (s_do (t_st (vs := [.slice aoY133 (((nth hs k).ds).length) cY133]) sizeOf24 rfl rfl rfl B142 rfl rfl rfl rfl (fun w144 sw144 B146 u145 => ?_))))
      have zu145 := u145.size
      have B146 : Blk w144 bk23 79 [.int .i64 ((nth hs k).f), .int .i64 ((nth hs k).u), .slice ao125 (((nth hs k).ps).length) cp127, .slice aoY133 (((nth hs k).ds).length) cY133] := B146
      refine s_next ((Upd.refl _ _).next u145 (fun i hi (h : i = bk23) => show w36.heap.size ≤ i ∨ (i = bk23) by first | omega | exact .inr h)) (s_nil ?_)
      have D148 := (((A129.kE u136).keep u141 (fun hb => show ¬ (gb126 = bk23) by first | omega | assumption)).keep u145 (fun hb => show ¬ (gb126 = bk23) by first | omega | assumption))
      have D149 := ((haY133.keep u141 (fun hb => show ¬ (gY133 = bk23) by first | omega | assumption)).keep u145 (fun hb => show ¬ (gY133 = bk23) by first | omega | assumption))
      exact hK33 (ao125, gb126, cp127, bk120, aoY133, gY133, cY133, w128.heap.size) _ _ ⟨rfl, rfl, rfl, rfl, trivial⟩ ⟨(((((((Upd.refl _ _).nx u37).nx u123).next u130 (fun i hi h => by omega)).nx u136).next u141 (fun i hi h => by omega)).next u145 (fun i hi h => by omega)), B146, D148, (by show w28.heap.size ≤ bk120; omega), D149, (by show w28.heap.size ≤ w128.heap.size; omega)⟩
     refine s_do ?_
     have B150 := (B119.kx u123)
     refine t_load isAgg24 rfl rfl rfl (B150.get rfl) (s_next (Upd.refl _ _) (s_do (t_copy (enc := encPpr) (z := .agg #[.int .i64 0, .int .i64 0]) (bytes := 16) (k := 2) (ys := (nth hs k).ps) underlying77 (by kernel_rfl) rfl (by decide) (fun _ => rfl) (by intro x; simp [encPpr, Value.oneCell']) rfl rfl rfl rfl B122 ((hsm (nth hs k) (nth_mem (by omega))).hp.keep E124 (fun _ => fun h => h)) (hsm (nth hs k) (nth_mem (by omega))).hpl (by decide) (fun ao151 gb152 cp153 w154 A155 u156 gegb152 => ?_))))
     have zu156 := u156.size
     have lt_gb152 := A155.lt
     refine s_next ((Upd.refl _ _).next u156 (fun i hi (h : (i = bk120 ∧ bk120 ≤ i)) => show w36.heap.size ≤ i ∨ (i = bk23) by first | omega | exact .inr h)) (y_field underlying79 rfl sizeOf77 (2) rfl rfl rfl rfl (s_do (t_call own9 rfl rfl rfl rfl (duties_c ((nth hs k).ds) ((nth hs k).ad) (nth hs k).bd ((nth hs k).od) ((nth hs k).cd) _ ((hsm (nth hs k) (nth_mem (by omega))).hd.keep (E124.next u156 (fun i hi h => by omega)) (fun _ => fun h => h)) (hsm (nth hs k) (nth_mem (by omega))).hdl (by omega)) (fun v159 w160 r162 => ?_))))
     obtain ⟨⟨aoY158, gY158, cY158, rfl, haY158⟩, u161⟩ := r162
     have zu161 := u161.size
     have lt_gY158 := haY158.lt
     refine s_next ((Upd.refl _ _).nx u161) (s_do ?_)
     have B164 := ((B150.keep u156 (by omega)).kx u161)
     refine t_st (vs := [.slice ao151 (((nth hs k).ps).length) cp153]) sizeOf77 rfl rfl rfl B164 rfl rfl rfl rfl (fun w165 sw165 B167 u166 => ?_)
     have zu166 := u166.size
     have B167 : Blk w165 bk23 79 [.int .i64 ((nth hs k).f), .int .i64 ((nth hs k).u), .slice ao151 (((nth hs k).ps).length) cp153, .slice ((nth hs k).ad) ((nth hs k).ds.length) ((nth hs k).cd)] := B167
     refine s_next ((Upd.refl _ _).next u166 (fun i hi (h : i = bk23) => show w36.heap.size ≤ i ∨ (i = bk23) by first | omega | exact .inr h)) (y_field underlying79 rfl sizeOf24 (3) rfl rfl rfl rfl (s_do (t_st (vs := [.slice aoY158 (((nth hs k).ds).length) cY158]) sizeOf24 rfl rfl rfl B167 rfl rfl rfl rfl (fun w169 sw169 B171 u170 => ?_))))
     have zu170 := u170.size
     have B171 : Blk w169 bk23 79 [.int .i64 ((nth hs k).f), .int .i64 ((nth hs k).u), .slice ao151 (((nth hs k).ps).length) cp153, .slice aoY158 (((nth hs k).ds).length) cY158] := B171
     refine s_next ((Upd.refl _ _).next u170 (fun i hi (h : i = bk23) => show w36.heap.size ≤ i ∨ (i = bk23) by first | omega | exact .inr h)) (s_nil ?_)
     have D173 := (((A155.kE u161).keep u166 (fun hb => show ¬ (gb152 = bk23) by first | omega | assumption)).keep u170 (fun hb => show ¬ (gb152 = bk23) by first | omega | assumption))
     have D174 := ((haY158.keep u166 (fun hb => show ¬ (gY158 = bk23) by first | omega | assumption)).keep u170 (fun hb => show ¬ (gY158 = bk23) by first | omega | assumption))
     exact hK33 (ao151, gb152, cp153, bk120, aoY158, gY158, cY158, w154.heap.size) _ _ ⟨rfl, rfl, rfl, rfl, trivial⟩ ⟨(((((((Upd.refl _ _).nx u37).nx u123).next u156 (fun i hi h => by omega)).nx u161).next u166 (fun i hi h => by omega)).next u170 (fun i hi h => by omega)), B171, D173, (by show w28.heap.size ≤ bk120; omega), D174, (by show w28.heap.size ≤ w154.heap.size; omega)⟩
    refine s_do (t_load isAgg24 rfl rfl rfl (B119.get rfl) (s_next (Upd.refl _ _) (s_do (t_bslice (ps := []) (cs := []) (e := 136) rfl rfl ⟨rfl, rfl⟩ (fun w => by kernel_rfl) (fun bk175 w176 ebk175 sbk175 B177 u178 => ?_)))))
    have zu178 := u178.size
    have E179 := E38.nx u178
    refine s_next ((Upd.refl _ _).nx u178) (s_do (t_copy (enc := encPpr) (z := .agg #[.int .i64 0, .int .i64 0]) (bytes := 16) (k := 2) (ys := (nth hs k).ps) underlying77 (by kernel_rfl) rfl (by decide) (fun _ => rfl) (by intro x; simp [encPpr, Value.oneCell']) rfl rfl rfl rfl B177 ((hsm (nth hs k) (nth_mem (by omega))).hp.keep E179 (fun _ => fun h => h)) (hsm (nth hs k) (nth_mem (by omega))).hpl (by decide) (fun ao180 gb181 cp182 w183 A184 u185 gegb181 => ?_)))
    have zu185 := u185.size
    have lt_gb181 := A184.lt
    refine s_next ((Upd.refl _ _).next u185 (fun i hi (h : (i = bk175 ∧ bk175 ≤ i)) => show w36.heap.size ≤ i ∨ (i = bk23) by first | omega | exact .inr h)) (y_field underlying79 rfl sizeOf77 (2) rfl rfl rfl rfl (s_do (t_call own9 rfl rfl rfl rfl (duties_c ((nth hs k).ds) ((nth hs k).ad) (nth hs k).bd ((nth hs k).od) ((nth hs k).cd) _ ((hsm (nth hs k) (nth_mem (by omega))).hd.keep (E179.next u185 (fun i hi h => by omega)) (fun _ => fun h => h)) (hsm (nth hs k) (nth_mem (by omega))).hdl (by omega)) (fun v188 w189 r191 => ?_))))
    obtain ⟨⟨aoY187, gY187, cY187, rfl, haY187⟩, u190⟩ := r191
    have zu190 := u190.size
    have lt_gY187 := haY187.lt
    refine s_next ((Upd.refl _ _).nx u190) (s_do ?_)
    have B193 := (((B119.kx u178).keep u185 (by omega)).kx u190)
    refine t_st (vs := [.slice ao180 (((nth hs k).ps).length) cp182]) sizeOf77 rfl rfl rfl B193 rfl rfl rfl rfl (fun w194 sw194 B196 u195 => ?_)
    have zu195 := u195.size
    have B196 : Blk w194 bk23 79 [.int .i64 ((nth hs k).f), .int .i64 ((nth hs k).u), .slice ao180 (((nth hs k).ps).length) cp182, .slice ((nth hs k).ad) ((nth hs k).ds.length) ((nth hs k).cd)] := B196
    refine s_next ((Upd.refl _ _).next u195 (fun i hi (h : i = bk23) => show w36.heap.size ≤ i ∨ (i = bk23) by first | omega | exact .inr h)) (y_field underlying79 rfl sizeOf24 (3) rfl rfl rfl rfl (s_do (t_st (vs := [.slice aoY187 (((nth hs k).ds).length) cY187]) sizeOf24 rfl rfl rfl B196 rfl rfl rfl rfl (fun w198 sw198 B200 u199 => ?_))))
    have zu199 := u199.size
    have B200 : Blk w198 bk23 79 [.int .i64 ((nth hs k).f), .int .i64 ((nth hs k).u), .slice ao180 (((nth hs k).ps).length) cp182, .slice aoY187 (((nth hs k).ds).length) cY187] := B200
    refine s_next ((Upd.refl _ _).next u199 (fun i hi (h : i = bk23) => show w36.heap.size ≤ i ∨ (i = bk23) by first | omega | exact .inr h)) (s_nil ?_)
    have D202 := (((A184.kE u190).keep u195 (fun hb => show ¬ (gb181 = bk23) by first | omega | assumption)).keep u199 (fun hb => show ¬ (gb181 = bk23) by first | omega | assumption))
    have D203 := ((haY187.keep u195 (fun hb => show ¬ (gY187 = bk23) by first | omega | assumption)).keep u199 (fun hb => show ¬ (gY187 = bk23) by first | omega | assumption))
    exact hK33 (ao180, gb181, cp182, bk175, aoY187, gY187, cY187, w183.heap.size) _ _ ⟨rfl, rfl, rfl, rfl, trivial⟩ ⟨(((((((Upd.refl _ _).nx u37).nx u178).next u185 (fun i hi h => by omega)).nx u190).next u195 (fun i hi h => by omega)).next u199 (fun i hi h => by omega)), B200, D202, (by show w28.heap.size ≤ bk175; omega), D203, (by show w28.heap.size ≤ w183.heap.size; omega)⟩
   refine s_do ?_
   have B204 := (B30.kx u37)
   refine t_load isAgg24 rfl rfl rfl (B204.get rfl) (s_next (Upd.refl _ _) (s_or ?_ ?_))
   ·
    refine s_do (t_bslice (ps := []) (cs := []) (e := 136) rfl rfl ⟨rfl, rfl⟩ (fun w => by kernel_rfl) (fun bk205 w206 ebk205 sbk205 B207 u208 => ?_))
    have zu208 := u208.size
    have E209 := E38.nx u208
    refine s_next ((Upd.refl _ _).nx u208) (s_do ?_)
    have B210 := (B204.kx u208)
    refine t_load isAgg77 rfl rfl rfl (B210.get rfl) (s_next (Upd.refl _ _) (s_do (t_copy (enc := encPpr) (z := .agg #[.int .i64 0, .int .i64 0]) (bytes := 16) (k := 2) (ys := (nth hs k).ps) underlying77 (by kernel_rfl) rfl (by decide) (fun _ => rfl) (by intro x; simp [encPpr, Value.oneCell']) rfl rfl rfl rfl B207 ((hsm (nth hs k) (nth_mem (by omega))).hp.keep E209 (fun _ => fun h => h)) (hsm (nth hs k) (nth_mem (by omega))).hpl (by decide) (fun ao211 gb212 cp213 w214 A215 u216 gegb212 => ?_))))
    have zu216 := u216.size
    have lt_gb212 := A215.lt
    refine s_next ((Upd.refl _ _).next u216 (fun i hi (h : (i = bk205 ∧ bk205 ≤ i)) => show w36.heap.size ≤ i ∨ (i = bk23) by first | omega | exact .inr h)) (y_field underlying79 rfl sizeOf77 (2) rfl rfl rfl rfl (s_do (t_call own9 rfl rfl rfl rfl (duties_c ((nth hs k).ds) ((nth hs k).ad) (nth hs k).bd ((nth hs k).od) ((nth hs k).cd) _ ((hsm (nth hs k) (nth_mem (by omega))).hd.keep (E209.next u216 (fun i hi h => by omega)) (fun _ => fun h => h)) (hsm (nth hs k) (nth_mem (by omega))).hdl (by omega)) (fun v219 w220 r222 => ?_))))
    obtain ⟨⟨aoY218, gY218, cY218, rfl, haY218⟩, u221⟩ := r222
    have zu221 := u221.size
    have lt_gY218 := haY218.lt
    refine s_next ((Upd.refl _ _).nx u221) (s_do ?_)
    have B224 := ((B210.keep u216 (by omega)).kx u221)
    refine t_st (vs := [.slice ao211 (((nth hs k).ps).length) cp213]) sizeOf77 rfl rfl rfl B224 rfl rfl rfl rfl (fun w225 sw225 B227 u226 => ?_)
    have zu226 := u226.size
    have B227 : Blk w225 bk23 79 [.int .i64 ((nth hs k).f), .int .i64 ((nth hs k).u), .slice ao211 (((nth hs k).ps).length) cp213, .slice ((nth hs k).ad) ((nth hs k).ds.length) ((nth hs k).cd)] := B227
    refine s_next ((Upd.refl _ _).next u226 (fun i hi (h : i = bk23) => show w36.heap.size ≤ i ∨ (i = bk23) by first | omega | exact .inr h)) (y_field underlying79 rfl sizeOf24 (3) rfl rfl rfl rfl (s_do (t_st (vs := [.slice aoY218 (((nth hs k).ds).length) cY218]) sizeOf24 rfl rfl rfl B227 rfl rfl rfl rfl (fun w229 sw229 B231 u230 => ?_))))
    have zu230 := u230.size
    have B231 : Blk w229 bk23 79 [.int .i64 ((nth hs k).f), .int .i64 ((nth hs k).u), .slice ao211 (((nth hs k).ps).length) cp213, .slice aoY218 (((nth hs k).ds).length) cY218] := B231
    refine s_next ((Upd.refl _ _).next u230 (fun i hi (h : i = bk23) => show w36.heap.size ≤ i ∨ (i = bk23) by first | omega | exact .inr h)) (s_nil ?_)
    have D233 := (((A215.kE u221).keep u226 (fun hb => show ¬ (gb212 = bk23) by first | omega | assumption)).keep u230 (fun hb => show ¬ (gb212 = bk23) by first | omega | assumption))
    have D234 := ((haY218.keep u226 (fun hb => show ¬ (gY218 = bk23) by first | omega | assumption)).keep u230 (fun hb => show ¬ (gY218 = bk23) by first | omega | assumption))
    exact hK33 (ao211, gb212, cp213, bk205, aoY218, gY218, cY218, w214.heap.size) _ _ ⟨rfl, rfl, rfl, rfl, trivial⟩ ⟨(((((((Upd.refl _ _).nx u37).nx u208).next u216 (fun i hi h => by omega)).nx u221).next u226 (fun i hi h => by omega)).next u230 (fun i hi h => by omega)), B231, D233, (by show w28.heap.size ≤ bk205; omega), D234, (by show w28.heap.size ≤ w214.heap.size; omega)⟩
   refine s_do (t_load isAgg77 rfl rfl rfl (B204.get rfl) (s_next (Upd.refl _ _) (s_do (t_bslice (ps := []) (cs := []) (e := 136) rfl rfl ⟨rfl, rfl⟩ (fun w => by kernel_rfl) (fun bk235 w236 ebk235 sbk235 B237 u238 => ?_)))))
   have zu238 := u238.size
   have E239 := E38.nx u238
   refine s_next ((Upd.refl _ _).nx u238) (s_do (t_copy (enc := encPpr) (z := .agg #[.int .i64 0, .int .i64 0]) (bytes := 16) (k := 2) (ys := (nth hs k).ps) underlying77 (by kernel_rfl) rfl (by decide) (fun _ => rfl) (by intro x; simp [encPpr, Value.oneCell']) rfl rfl rfl rfl B237 ((hsm (nth hs k) (nth_mem (by omega))).hp.keep E239 (fun _ => fun h => h)) (hsm (nth hs k) (nth_mem (by omega))).hpl (by decide) (fun ao240 gb241 cp242 w243 A244 u245 gegb241 => ?_)))
   have zu245 := u245.size
   have lt_gb241 := A244.lt
   refine s_next ((Upd.refl _ _).next u245 (fun i hi (h : (i = bk235 ∧ bk235 ≤ i)) => show w36.heap.size ≤ i ∨ (i = bk23) by first | omega | exact .inr h)) (y_field underlying79 rfl sizeOf77 (2) rfl rfl rfl rfl (s_do (t_call own9 rfl rfl rfl rfl (duties_c ((nth hs k).ds) ((nth hs k).ad) (nth hs k).bd ((nth hs k).od) ((nth hs k).cd) _ ((hsm (nth hs k) (nth_mem (by omega))).hd.keep (E239.next u245 (fun i hi h => by omega)) (fun _ => fun h => h)) (hsm (nth hs k) (nth_mem (by omega))).hdl (by omega)) (fun v248 w249 r251 => ?_))))
   obtain ⟨⟨aoY247, gY247, cY247, rfl, haY247⟩, u250⟩ := r251
   have zu250 := u250.size
   have lt_gY247 := haY247.lt
   refine s_next ((Upd.refl _ _).nx u250) (s_do ?_)
   have B253 := (((B204.kx u238).keep u245 (by omega)).kx u250)
   refine t_st (vs := [.slice ao240 (((nth hs k).ps).length) cp242]) sizeOf77 rfl rfl rfl B253 rfl rfl rfl rfl (fun w254 sw254 B256 u255 => ?_)
   have zu255 := u255.size
   have B256 : Blk w254 bk23 79 [.int .i64 ((nth hs k).f), .int .i64 ((nth hs k).u), .slice ao240 (((nth hs k).ps).length) cp242, .slice ((nth hs k).ad) ((nth hs k).ds.length) ((nth hs k).cd)] := B256
   refine s_next ((Upd.refl _ _).next u255 (fun i hi (h : i = bk23) => show w36.heap.size ≤ i ∨ (i = bk23) by first | omega | exact .inr h)) (y_field underlying79 rfl sizeOf24 (3) rfl rfl rfl rfl (s_do (t_st (vs := [.slice aoY247 (((nth hs k).ds).length) cY247]) sizeOf24 rfl rfl rfl B256 rfl rfl rfl rfl (fun w258 sw258 B260 u259 => ?_))))
   have zu259 := u259.size
   have B260 : Blk w258 bk23 79 [.int .i64 ((nth hs k).f), .int .i64 ((nth hs k).u), .slice ao240 (((nth hs k).ps).length) cp242, .slice aoY247 (((nth hs k).ds).length) cY247] := B260
   refine s_next ((Upd.refl _ _).next u259 (fun i hi (h : i = bk23) => show w36.heap.size ≤ i ∨ (i = bk23) by first | omega | exact .inr h)) (s_nil ?_)
   have D262 := (((A244.kE u250).keep u255 (fun hb => show ¬ (gb241 = bk23) by first | omega | assumption)).keep u259 (fun hb => show ¬ (gb241 = bk23) by first | omega | assumption))
   have D263 := ((haY247.keep u255 (fun hb => show ¬ (gY247 = bk23) by first | omega | assumption)).keep u259 (fun hb => show ¬ (gY247 = bk23) by first | omega | assumption))
   exact hK33 (ao240, gb241, cp242, bk235, aoY247, gY247, cY247, w243.heap.size) _ _ ⟨rfl, rfl, rfl, rfl, trivial⟩ ⟨(((((((Upd.refl _ _).nx u37).nx u238).next u245 (fun i hi h => by omega)).nx u250).next u255 (fun i hi h => by omega)).next u259 (fun i hi h => by omega)), B260, D262, (by show w28.heap.size ≤ bk235; omega), D263, (by show w28.heap.size ≤ w243.heap.size; omega)⟩
  intro gg w34 hW
  obtain ⟨ap, gp, cp2, b1, ad, gd, cd, b2⟩ := gg
  change WC _ _ _ _ _ _ [(0, .slice al hs.length cl), (3, .slice ao out.length co), (4, .int .i64 (k : Int)), (5, .pointer (some ⟨bk23, 0, none⟩))] _
  change Upd (fun i => i = bk23) w28 w34 ∧ Blk w34 bk23 79 [.int .i64 ((nth hs k).f), .int .i64 ((nth hs k).u), .slice ap ((nth hs k).ps.length) cp2, .slice ad ((nth hs k).ds.length) cd] ∧ (Acc encPpr 2 136 b1 w34 ap gp cp2 (nth hs k).ps) ∧ (w28.heap.size ≤ b1) ∧ (Acc encDty 4 37 b2 w34 ad gd cd (nth hs k).ds) ∧ (w28.heap.size ≤ b2) at hW
  obtain ⟨u35, I264, I265, I266, I267, I268⟩ := hW
  have zu35 := u35.size
  have hpA1 := I265; clear I265
  have hb1 := I266; clear I266
  have hdA1 := I267; clear I267
  have hb2 := I268; clear I268
  have lt_gp := hpA1.lt
  have lt_gd := hdA1.lt
  refine c_region (t_move rfl rfl rfl (t_loadN (vs := [.int .i64 ((nth hs k).f), .int .i64 ((nth hs k).u), .slice ap ((nth hs k).ps.length) cp2, .slice ad ((nth hs k).ds.length) cd]) isAgg79 sizeOf79 rfl rfl rfl (I264.at.sub 0 4) rfl (t_bslice (ps := [(0, .agg #[.int .i64 ((nth hs k).f), .int .i64 ((nth hs k).u), .slice ap ((nth hs k).ps.length) cp2, .slice ad ((nth hs k).ds.length) cd])]) (cs := [.int .i64 ((nth hs k).f), .int .i64 ((nth hs k).u), .slice ap ((nth hs k).ps.length) cp2, .slice ad ((nth hs k).ds.length) cd]) (e := 79) rfl rfl ⟨rfl, rfl⟩ (fun w => by kernel_rfl) (fun bk270 w271 ebk270 sbk270 B272 u273 => ?_))))
  have zu273 := u273.size
  have D275 := ((((hout.kE u26).keep u29 (fun hb => show ¬ (go = bk23) by first | omega | assumption)).keep u35 (fun hb => show ¬ (go = bk23) by first | omega | assumption)).kE u273)
  refine t_append (z := .agg #[.int .i64 0, .int .i64 0, .slice none 0 0, .slice none 0 0]) (bytes := 64) (k := 4) (base := bk3) (⟨(nth hs k).f, (nth hs k).u, (nth hs k).ps, ap, gp, 0, cp2, (nth hs k).ds, ad, gd, 0, cd⟩ : HS) underlying54 (by kernel_rfl) rfl (by decide) (fun _ => rfl) (by intro x; simp [encHS, Value.oneCell']) rfl rfl rfl rfl D275 B272 (by omega) (by omega) (by decide) (fun ao276 gb277 cp278 w279 A280 u281 gegb277 lngb277 => ?_)
  have zu281 := u281.size
  have lt_gb277 := A280.lt
  refine t_assign rfl rfl rfl (t_nil' (hK20 _ _ (c_region (t_move rfl rfl rfl (t_ari rfl rfl rfl rfl rfl (by omega) (t_assign rfl rfl rfl (t_nil' ?_)))))))
  have D283 := ((hpA1.kE u273).keep u281 (fun hb => show ¬ ((gp = go ∧ bk3 ≤ gp)) by first | omega | assumption))
  have D284 := ((hdA1.kE u273).keep u281 (fun hb => show ¬ ((gd = go ∧ bk3 ≤ gd)) by first | omega | assumption))
  have uR := ((((((Upd.refl (fun i => i = go ∧ bk3 ≤ i) w11).nx u26).next u29 (fun i hi (h : i = bk23) => show i = go ∧ bk3 ≤ i by omega)).next u35 (fun i hi (h : i = bk23) => show i = go ∧ bk3 ≤ i by omega)).nx u273).next u281 (fun i hi (h : (i = go ∧ bk3 ≤ i)) => show i = go ∧ bk3 ≤ i by omega))
  have hpA := D283
  have hdA := D284
  exact hK10 (k + 1, ao276, gb277, cp278, (out ++ [(⟨(nth hs k).f, (nth hs k).u, (nth hs k).ps, ap, gp, 0, cp2, (nth hs k).ds, ad, gd, 0, cd⟩ : HS)])) _ _ (by show hs.length - (k + 1) < hs.length - k; omega) ⟨rfl, rfl, rfl, trivial⟩ ⟨(((((u12.nx u26).next u29 (fun i hi (h : i = bk23) => show bk3 ≤ i by first | omega | assumption)).next u35 (fun i hi (h : i = bk23) => show bk3 ≤ i by first | omega | assumption)).nx u273).next u281 (fun i hi (h : (i = go ∧ bk3 ≤ i)) => show bk3 ≤ i by first | omega | assumption)), (by omega), A280, (by rw [List.map_append, hom, take_nth (by omega), List.map_append]; rfl), (fun h hh => by
    rcases List.mem_append.1 hh with q | q
    · exact (hoc h q).upd uR (fun _ cs hB => hout0.notBlk hB (by decide)) (fun _ cs hB => hout0.notBlk hB (by decide))
    · rw [List.mem_singleton.1 q]; have hs9 := hsm (nth hs k) (nth_mem (by omega)); exact ⟨⟨_, by omega, hpA⟩, rfl, ⟨_, by omega, hdA⟩, rfl, hs9.hpl, hs9.hdl⟩)⟩
 refine c_exit (hK8 _ _ (c_seq fun K285 hK285 => (c_region (t_move rfl rfl rfl (t_assign rfl rfl rfl (t_nil' (hK285 _ _ (c_ret (f_ret1 (v := .slice ao out.length co) results24 rfl ?_)))))))))
 have hme : out.map HS.slr = hs.map HS.slr := by rw [hom, List.take_of_length_le (by omega)]
 obtain ⟨g9, ha9⟩ := Acc.lower (base' := w0.heap.size) hout (by omega) hpos
 exact ⟨⟨ao, g9, co, out, rfl, ha9, hme, fun h hh => ((hoc h hh).ext (Upd.refl _ _)).low (by omega)⟩, E17⟩

theorem legs_c (xs : List Leg) (ax : Option Addr) (bx ox cx : Nat) (w0 : World) (hxs : Sl encLeg 7 w0 ax bx ox xs) (hxl : xs.length ≤ 1000000) (hpos : 0 < w0.heap.size) :
    CallsV Tryz.prog 25 [.slice ax xs.length cx] w0 (fun v w' => (∃ ao g cp, v = .slice ao (List.length xs) cp ∧ Acc encLeg 7 68 w0.heap.size w' ao g cp xs) ∧ Ext w0 w') := by
 refine f_enter (N := 6) func25 rfl rfl rfl (c_seq fun K1 hK1 => (c_region (t_assign rfl rfl rfl (t_nil' (hK1 _ _ (c_seq fun K2 hK2 => (c_region (t_bslice (ps := []) (cs := []) (e := 68) rfl rfl ⟨rfl, rfl⟩ (fun w => by kernel_rfl) (fun bk3 w4 ebk3 sbk3 B5 u6 => ?_)))))))))
 have zu6 := u6.size
 have E7 := (Upd.refl (fun _ => False) w0).nx u6
 refine t_move rfl rfl rfl (t_copy (enc := encLeg) (z := .agg #[.int .i64 0, .int .i64 0, .int .i64 0, .int .i64 0, .int .i64 0, .int .i64 0, .int .i64 0]) (bytes := 56) (k := 7) (ys := xs) underlying55 (by kernel_rfl) rfl (by decide) (fun _ => rfl) (by intro x; simp [encLeg, Value.oneCell']) rfl rfl rfl rfl B5 (hxs.keep E7 (fun _ h => h)) (by omega) (by decide) (fun ao8 gb9 cp10 w11 A12 u13 gegb9 => ?_))
 have zu13 := u13.size
 have lt_gb9 := A12.lt
 refine t_assign rfl rfl rfl (t_nil' (hK2 _ _ (c_ret (f_ret1 (v := .slice ao8 xs.length cp10) results25 rfl ?_))))
 obtain ⟨g9, ha9⟩ := Acc.lower (base' := w0.heap.size) A12 (by omega) hpos
 exact ⟨⟨ao8, g9, cp10, rfl, ha9⟩, (E7.next u13 (fun i hi h => by omega))⟩

set_option maxHeartbeats 1000000 in
theorem lists_c (rows : List HL) (ar : Option Addr) (br or_ cr : Nat) (w0 : World) (hr9 : Sl encHL 1 w0 ar br or_ rows) (hrl : rows.length ≤ 1000000) (hrm : ∀ h ∈ rows, Sl encI 1 w0 h.ao h.b h.o h.xs ∧ h.xs.length ≤ 1000000) (hpos : 0 < w0.heap.size) :
    CallsV Tryz.prog 26 [.slice ar rows.length cr] w0 (fun v w' => (∃ ao g cp out, v = .slice ao (List.length out) cp ∧ Acc encHL 1 60 w0.heap.size w' ao g cp out ∧ out.map HL.xs = rows.map HL.xs ∧ ∀ h ∈ out, LstC w0.heap.size w' h) ∧ Ext w0 w') := by
 refine f_enter (N := 22) func26 rfl rfl rfl (c_seq fun K1 hK1 => (c_region (t_assign rfl rfl rfl (t_nil' (hK1 _ _ (c_seq fun K2 hK2 => (c_region (t_bslice (ps := []) (cs := []) (e := 60) rfl rfl ⟨rfl, rfl⟩ (fun w => by kernel_rfl) (fun bk3 w4 ebk3 sbk3 B5 u6 => ?_)))))))))
 have zu6 := u6.size
 refine t_assign rfl rfl rfl (t_nil' (hK2 _ _ (c_seq fun K8 hK8 => (c_seq fun K9 hK9 => (c_region (t_assign rfl rfl rfl (t_nil' (hK9 _ _ (c_block (c_loop (γ := Nat × Option Addr × Nat × Nat × List HL) (fun gg => [(0, .slice ar rows.length cr), (3, .slice gg.2.1 gg.2.2.2.2.length gg.2.2.2.1), (4, .int .i64 (gg.1 : Int))]) (fun gg w => Upd (fun i => bk3 ≤ i) w4 w ∧ (gg.1 ≤ rows.length) ∧ (Acc encHL 1 60 bk3 w gg.2.1 gg.2.2.1 gg.2.2.2.1 gg.2.2.2.2) ∧ (gg.2.2.2.2.map HL.xs = (rows.take gg.1).map HL.xs) ∧ (∀ h ∈ gg.2.2.2.2, LstC bk3 w h)) (fun gg => rows.length - gg.1) (0, some ⟨bk3, 0, none⟩, bk3, 0, []) ⟨rfl, rfl, rfl, trivial⟩ ⟨Upd.refl _ _, (Nat.zero_le _), (Acc.ofRaw (cs := []) B5 (Nat.le_refl _) (Nat.le_refl _) (Nat.zero_le _) (by rfl) (by rfl)), rfl, (fun h hh => by cases hh)⟩ ?_))))))))))
 intro gg w11 hW K10 hK10
 obtain ⟨k, ao, go, co, out⟩ := gg
 change WC _ _ _ _ _ _ [(0, .slice ar rows.length cr), (3, .slice ao out.length co), (4, .int .i64 (k : Int))] _
 change Upd (fun i => bk3 ≤ i) w4 w11 ∧ (k ≤ rows.length) ∧ (Acc encHL 1 60 bk3 w11 ao go co out) ∧ (out.map HL.xs = (rows.take k).map HL.xs) ∧ (∀ h ∈ out, LstC bk3 w11 h) at hW
 obtain ⟨u12, I13, I14, I15, I16⟩ := hW
 have zu12 := u12.size
 have E17 := ((Upd.refl (fun _ => False) w0).nx u6).next u12 (fun i hi (h : bk3 ≤ i) => show False by first | omega | assumption)
 have hk := I13; clear I13
 have hout := I14; clear I14
 have hom := I15; clear I15
 have hoc := I16; clear I16
 have lt_go := hout.lt
 have hol : out.length = k := by have := congrArg List.length hom; simpa [List.length_take, Nat.min_eq_left hk] using this
 have hout0 := hout
 refine c_seq fun K18 hK18 => (c_seq fun K19 hK19 => (c_region (t_move rfl rfl rfl (t_move rfl rfl rfl (t_len underlying56 rfl rfl rfl rfl (t_cmp rfl rfl rfl rfl rfl (t_nil' (hK19 _ _ (c_condp rfl (fun g9 => ?_) (fun g9 => ?_))))))))))
 ·
  refine c_skip (hK18 _ _ (c_seq fun K20 hK20 => (c_block (c_region (t_move rfl rfl rfl (t_bslice (ps := []) (cs := []) (e := 3) rfl rfl ⟨rfl, rfl⟩ (fun w => by kernel_rfl) (fun bk21 w22 ebk21 sbk21 B23 u24 => ?_)))))))
  have zu24 := u24.size
  have E25 := E17.nx u24
  refine t_move rfl rfl rfl (t_move rfl rfl rfl ?_)
  have i26 : k < rows.length := (by omega)
  refine t_index (j := k) underlying56 sizeOf60 rfl rfl rfl rfl ((hr9.keep E25 (fun _ h => h)).addr (by omega)) rfl i26 (t_load isAgg60 rfl rfl rfl (((hr9.keep E25 (fun _ h => h)).at_ k (by omega)) 0 _ rfl) (t_copy (enc := encI) (z := .int .i64 0) (bytes := 8) (k := 1) (ys := (nth rows k).xs) underlying60 (by kernel_rfl) rfl (by decide) (fun _ => rfl) (by intro x; simp [encI, Value.oneCell']) rfl rfl rfl rfl B23 ((hrm (nth rows k) (nth_mem (by omega))).1.keep E25 (fun _ h => h)) (hrm (nth rows k) (nth_mem (by omega))).2 (by decide) (fun ao27 gb28 cp29 w30 A31 u32 gegb28 => ?_)))
  have zu32 := u32.size
  have lt_gb28 := A31.lt
  refine t_bslice (ps := [(0, .slice ao27 (((nth rows k).xs).length) cp29)]) (cs := [.slice ao27 (((nth rows k).xs).length) cp29]) (e := 60) rfl rfl ⟨rfl, rfl⟩ (fun w => by kernel_rfl) (fun bk34 w35 ebk34 sbk34 B36 u37 => ?_)
  have zu37 := u37.size
  have D39 := (((hout.kE u24).keep u32 (fun hb => show ¬ ((go = bk21 ∧ bk21 ≤ go)) by first | omega | assumption)).kE u37)
  refine t_append (z := .slice none 0 0) (bytes := 24) (k := 1) (base := bk3) (⟨(nth rows k).xs, ao27, gb28, 0, cp29⟩ : HL) underlying56 (by kernel_rfl) rfl (by decide) (fun _ => rfl) (by intro x; simp [encHL, Value.oneCell']) rfl rfl rfl rfl D39 B36 (by omega) (by omega) (by decide) (fun ao40 gb41 cp42 w43 A44 u45 gegb41 lngb41 => ?_)
  have zu45 := u45.size
  have lt_gb41 := A44.lt
  refine t_assign rfl rfl rfl (t_nil' (hK20 _ _ (c_region (t_move rfl rfl rfl (t_ari rfl rfl rfl rfl rfl (by omega) (t_assign rfl rfl rfl (t_nil' ?_)))))))
  have D47 := ((A31.kE u37).keep u45 (fun hb => show ¬ ((gb28 = go ∧ bk3 ≤ gb28)) by first | omega | assumption))
  have uR := (((((Upd.refl (fun i => i = go ∧ bk3 ≤ i) w11).nx u24).next u32 (fun i hi (h : (i = bk21 ∧ bk21 ≤ i)) => show i = go ∧ bk3 ≤ i by omega)).nx u37).next u45 (fun i hi (h : (i = go ∧ bk3 ≤ i)) => show i = go ∧ bk3 ≤ i by omega))
  have hpA := D47
  exact hK10 (k + 1, ao40, gb41, cp42, (out ++ [(⟨(nth rows k).xs, ao27, gb28, 0, cp29⟩ : HL)])) _ _ (by show rows.length - (k + 1) < rows.length - k; omega) ⟨rfl, rfl, rfl, trivial⟩ ⟨((((u12.nx u24).next u32 (fun i hi (h : (i = bk21 ∧ bk21 ≤ i)) => show bk3 ≤ i by first | omega | assumption)).nx u37).next u45 (fun i hi (h : (i = go ∧ bk3 ≤ i)) => show bk3 ≤ i by first | omega | assumption)), (by omega), A44, (by rw [List.map_append, hom, take_nth (by omega), List.map_append]; rfl), (fun h hh => by
    rcases List.mem_append.1 hh with q | q
    · exact (hoc h q).upd uR (fun _ cs hB => hout0.notBlk hB (by decide))
    · rw [List.mem_singleton.1 q]; exact ⟨⟨_, by omega, hpA⟩, rfl, (hrm (nth rows k) (nth_mem (by omega))).2⟩)⟩
 refine c_exit (hK8 _ _ (c_seq fun K48 hK48 => (c_region (t_move rfl rfl rfl (t_assign rfl rfl rfl (t_nil' (hK48 _ _ (c_ret (f_ret1 (v := .slice ao out.length co) results26 rfl ?_)))))))))
 have hme : out.map HL.xs = rows.map HL.xs := by rw [hom, List.take_of_length_le (by omega)]
 obtain ⟨g9, ha9⟩ := Acc.lower (base' := w0.heap.size) hout (by omega) hpos
 exact ⟨⟨ao, g9, co, out, rfl, ha9, hme, fun h hh => ((hoc h hh).ext (Upd.refl _ _)).low (by omega)⟩, E17⟩

theorem great_c (hs : List HS) (al : Option Addr) (bl ol cl : Nat) (ax : Option Addr) (n cx : Nat) (w0 : World) (hl : Sl encHS 4 w0 al bl ol hs) (hll : hs.length ≤ 9223372036854775807) :
    CallsV Tryz.prog 22 [.slice al hs.length cl, .slice ax n cx] w0 (fun v w' => v = .bool (grtP hs n) ∧ Ext w0 w') := by
 refine f_enter (N := 36) func22 rfl rfl rfl (c_seq fun K1 hK1 => (c_region (t_assign rfl rfl rfl (t_nil' (hK1 _ _ (c_seq fun K2 hK2 => (c_seq fun K3 hK3 => (c_region (t_assign rfl rfl rfl (t_nil' (hK3 _ _ (c_block (c_loop (γ := Nat) (fun k => [(0, .slice al hs.length cl), (1, .slice ax n cx), (5, .int .i64 (k : Int))]) (fun k w => Upd (fun _ => False) w0 w ∧ (k ≤ hs.length) ∧ (((hs.take k).any fun h => decide (15 < h.ps.length ∨ 25 < h.ds.length)) = false)) (fun k => hs.length - k) 0 ⟨rfl, rfl, rfl, trivial⟩ ⟨Upd.refl _ _, (Nat.zero_le _), rfl⟩ ?_)))))))))))))
 intro k w5 hW K4 hK4
 obtain ⟨u6, I7, I8⟩ := hW
 have zu6 := u6.size
 have E9 := (Upd.refl (fun _ => False) w0).nx u6
 have hk := I7; clear I7
 have hno := I8; clear I8
 refine c_seq fun K10 hK10 => (c_seq fun K11 hK11 => (c_region (t_move rfl rfl rfl (t_move rfl rfl rfl (t_len underlying54 rfl rfl rfl rfl (t_cmp rfl rfl rfl rfl rfl (t_nil' (hK11 _ _ (c_condp rfl (fun g9 => ?_) (fun g9 => ?_))))))))))
 ·
  refine c_skip (hK10 _ _ (c_seq fun K12 hK12 => (c_block (c_seq fun K13 hK13 => (c_region (t_move rfl rfl rfl (t_move rfl rfl rfl ?_)))))))
  have i14 : k < hs.length := (by omega)
  refine t_index (j := k) underlying54 sizeOf79 rfl rfl rfl rfl ((hl.keep E9 (fun _ h => h)).addr (by omega)) rfl i14 (t_field underlying79 rfl sizeOf77 (ol + k * 4 + 2) rfl rfl rfl rfl (t_load isAgg77 rfl rfl rfl (((hl.keep E9 (fun _ h => h)).at_ k (by omega)) 2 _ rfl) (t_len underlying77 rfl rfl rfl rfl (t_cmp rfl rfl rfl rfl rfl (t_move rfl rfl rfl (t_splitp 19 rfl (fun g19 => ?_) (fun g19 => ?_)))))))
  ·
   refine t_skip rfl rfl rfl (t_skip rfl rfl rfl (t_skip rfl rfl rfl (t_skip rfl rfl rfl (t_skip rfl rfl rfl (t_skip rfl rfl rfl (t_skip rfl rfl rfl (t_pick_t rfl rfl rfl rfl (t_nil' (hK13 _ _ (c_cond_t rfl (c_seq fun K15 hK15 => (c_region (t_assign rfl rfl rfl (t_nil' (hK15 _ _ (c_ret (f_ret1 (v := .bool true) results22 rfl ?_)))))))))))))))))
   exact ⟨congrArg Value.bool (by unfold grtP; rw [List.any_eq_true.2 ⟨_, nth_mem (show k < hs.length by omega), decide_eq_true (by omega)⟩]; rfl), E9⟩
  refine t_move rfl rfl rfl (t_move rfl rfl rfl ?_)
  have i16 : k < hs.length := (by omega)
  refine t_index (j := k) underlying54 sizeOf79 rfl rfl rfl rfl ((hl.keep E9 (fun _ h => h)).addr (by omega)) rfl i16 (t_field underlying79 rfl sizeOf24 (ol + k * 4 + 3) rfl rfl rfl rfl (t_load isAgg24 rfl rfl rfl (((hl.keep E9 (fun _ h => h)).at_ k (by omega)) 3 _ rfl) (t_len underlying24 rfl rfl rfl rfl (t_cmp rfl rfl rfl rfl rfl (t_pick_f rfl rfl rfl rfl (t_nil' (hK13 _ _ (c_condp rfl (fun g27 => ?_) (fun g27 => ?_)))))))))
  ·
   refine c_seq fun K17 hK17 => (c_region (t_assign rfl rfl rfl (t_nil' (hK17 _ _ (c_ret (f_ret1 (v := .bool true) results22 rfl ?_))))))
   exact ⟨congrArg Value.bool (by unfold grtP; rw [List.any_eq_true.2 ⟨_, nth_mem (show k < hs.length by omega), decide_eq_true (by omega)⟩]; rfl), E9⟩
  refine c_skip (hK12 _ _ (c_region (t_move rfl rfl rfl (t_ari rfl rfl rfl rfl rfl (by omega) (t_assign rfl rfl rfl (t_nil' ?_))))))
  exact hK4 (k + 1) _ _ (by omega) ⟨rfl, rfl, rfl, trivial⟩ ⟨u6, (by omega), (any_snoc (p := fun h : HS => decide (15 < h.ps.length ∨ 25 < h.ds.length)) (by omega) hno (decide_eq_false (by omega)))⟩
 refine c_exit (hK2 _ _ (c_seq fun K18 hK18 => (c_region (t_move rfl rfl rfl (t_len underlying54 rfl rfl rfl rfl (t_cmp rfl rfl rfl rfl rfl (t_move rfl rfl rfl (t_splitp 31 rfl (fun g31 => ?_) (fun g31 => ?_)))))))))
 ·
  refine t_skip rfl rfl rfl (t_skip rfl rfl rfl (t_skip rfl rfl rfl (t_pick_t rfl rfl rfl rfl (t_assign rfl rfl rfl (t_nil' (hK18 _ _ (c_ret (f_ret1 (v := .bool true) results22 rfl ?_))))))))
  exact ⟨congrArg Value.bool (by unfold grtP; rw [List.take_of_length_le (by omega)] at hno; rw [hno, Bool.false_or, Bool.eq_iff_iff]; simp only [decide_eq_true_eq] <;> first | omega | simp <;> omega), E9⟩
 refine t_move rfl rfl rfl (t_len underlying55 rfl rfl rfl rfl (t_cmp rfl rfl rfl rfl rfl (t_pick_f rfl rfl rfl rfl (t_assign rfl rfl rfl (t_nil' (hK18 _ _ (c_ret (f_ret1 (v := .bool (decide (10 < (n : Int)))) results22 rfl ?_))))))))
 exact ⟨congrArg Value.bool (by unfold grtP; rw [List.take_of_length_le (by omega)] at hno; rw [hno, Bool.false_or, Bool.eq_iff_iff]; simp only [decide_eq_true_eq] <;> first | omega | simp <;> omega), E9⟩

theorem heavy_c (n m : Nat) (al ax : Option Addr) (cl cx : Nat) (w0 : World) :
    CallsV Tryz.prog 23 [.slice al n cl, .slice ax m cx] w0 (fun v w' => v = .bool (hvyP n m) ∧ Ext w0 w') := by
 have E0 := Upd.refl (fun _ => False) w0
 refine f_enter (N := 23) func23 rfl rfl rfl (c_seq fun K1 hK1 => (c_region (t_assign rfl rfl rfl (t_nil' (hK1 _ _ (c_seq fun K2 hK2 => (c_region (t_move rfl rfl rfl (t_len underlying54 rfl rfl rfl rfl (t_cmp rfl rfl rfl rfl rfl (t_move rfl rfl rfl (t_splitp 8 rfl (fun g8 => ?_) (fun g8 => ?_)))))))))))))
 ·
  refine t_move rfl rfl rfl (t_len underlying55 rfl rfl rfl rfl (t_cmp rfl rfl rfl rfl rfl (t_pick_t rfl rfl rfl rfl (t_move rfl rfl rfl (t_splitp 13 rfl (fun g13 => ?_) (fun g13 => ?_))))))
  ·
   refine t_move rfl rfl rfl (t_len underlying54 rfl rfl rfl rfl (t_cmp rfl rfl rfl rfl rfl (t_move rfl rfl rfl (t_splitp 17 rfl (fun g17 => ?_) (fun g17 => ?_)))))
   ·
    refine t_skip rfl rfl rfl (t_skip rfl rfl rfl (t_skip rfl rfl rfl (t_pick_t rfl rfl rfl rfl (t_pick_t rfl rfl rfl rfl (t_assign rfl rfl rfl (t_nil' (hK2 _ _ (c_ret (f_ret1 (v := .bool true) results23 rfl ?_)))))))))
    exact ⟨congrArg Value.bool (by unfold hvyP; rw [Bool.eq_iff_iff]; simp <;> omega), E0⟩
   refine t_move rfl rfl rfl (t_len underlying55 rfl rfl rfl rfl (t_cmp rfl rfl rfl rfl rfl (t_pick_f rfl rfl rfl rfl (t_pick_t rfl rfl rfl rfl (t_assign rfl rfl rfl (t_nil' (hK2 _ _ (c_ret (f_ret1 (v := .bool (decide (5 < (m : Int)))) results23 rfl ?_)))))))))
   exact ⟨congrArg Value.bool (by unfold hvyP; rw [Bool.eq_iff_iff]; simp <;> omega), E0⟩
  refine t_skip rfl rfl rfl (t_skip rfl rfl rfl (t_skip rfl rfl rfl (t_skip rfl rfl rfl (t_skip rfl rfl rfl (t_skip rfl rfl rfl (t_skip rfl rfl rfl (t_skip rfl rfl rfl (t_pick_f rfl rfl rfl rfl (t_assign rfl rfl rfl (t_nil' (hK2 _ _ (c_ret (f_ret1 (v := .bool false) results23 rfl ?_)))))))))))))
  exact ⟨congrArg Value.bool (by unfold hvyP; rw [Bool.eq_iff_iff]; simp <;> omega), E0⟩
 refine t_skip rfl rfl rfl (t_skip rfl rfl rfl (t_skip rfl rfl rfl (t_pick_f rfl rfl rfl rfl (t_move rfl rfl rfl (t_skip rfl rfl rfl (t_skip rfl rfl rfl (t_skip rfl rfl rfl (t_skip rfl rfl rfl (t_skip rfl rfl rfl (t_skip rfl rfl rfl (t_skip rfl rfl rfl (t_skip rfl rfl rfl (t_pick_f rfl rfl rfl rfl (t_assign rfl rfl rfl (t_nil' (hK2 _ _ (c_ret (f_ret1 (v := .bool false) results23 rfl ?_))))))))))))))))))
 exact ⟨congrArg Value.bool (by unfold hvyP; rw [Bool.eq_iff_iff]; simp <;> omega), E0⟩

end Go.Proofs.YtagmodjadmecdaaGreat
