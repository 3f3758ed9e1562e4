/-
  The statements' copies of sailors, legs and lists. Conditions: none.
-/
import Derived.Test.YtagmodjadmecdaaPA18
namespace Go.Proofs.Ytagmodjadmecdaa
open Go Go.RowKit

/-- A copy of a sailor in memory: its papers and duties are its own. -/
structure SlrC (base : Nat) (w : World) (h : HS) : Prop where
  hp : ∃ b, base ≤ b ∧ Acc encPpr 2 107 b w h.ap h.bp h.cp h.ps
  op : h.op = 0
  hd : ∃ b, base ≤ b ∧ Acc encDty 4 40 b w h.ad h.bd h.cd h.ds
  od : h.od = 0
  hpl : h.ps.length ≤ 1000000
  hdl : h.ds.length ≤ 1000000
theorem SlrC.slrM {base : Nat} {w : World} {h : HS} (m : SlrC base w h) : SlrM w h := by
  obtain ⟨b, _, h1⟩ := m.hp
  obtain ⟨b2, _, h2⟩ := m.hd
  exact ⟨by rw [m.op]; exact h1.sl (fun _ => rfl), m.hpl, by rw [m.od]; exact h2.sl (fun _ => rfl), m.hdl⟩
theorem SlrC.upd {base : Nat} {w w' : World} {S : Nat → Prop} {h : HS} (m : SlrC base w h) (u : Upd S w w') (h1 : base ≤ h.bp → ∀ cs, Blk w h.bp 107 cs → ¬ S h.bp) (h2 : base ≤ h.bd → ∀ cs, Blk w h.bd 40 cs → ¬ S h.bd) : SlrC base w' h := by
  obtain ⟨b, hb, a⟩ := m.hp
  obtain ⟨b2, hb2, a2⟩ := m.hd
  exact ⟨⟨b, hb, a.keep u fun q => by obtain ⟨cs, hB⟩ := a.blkT q; exact h1 (by omega) cs hB⟩, m.op, ⟨b2, hb2, a2.keep u fun q => by obtain ⟨cs, hB⟩ := a2.blkT q; exact h2 (by omega) cs hB⟩, m.od, m.hpl, m.hdl⟩
theorem SlrC.ext {base : Nat} {w w' : World} {h : HS} (m : SlrC base w h) (u : Ext w w') : SlrC base w' h := m.upd u (fun _ _ _ q => q) (fun _ _ _ q => q)
theorem SlrC.low {base base' : Nat} {w : World} {h : HS} (m : SlrC base w h) (hb : base' ≤ base) : SlrC base' w h := by
  obtain ⟨b, hb1, a⟩ := m.hp
  obtain ⟨b2, hb2, a2⟩ := m.hd
  exact ⟨⟨b, by omega, a⟩, m.op, ⟨b2, by omega, a2⟩, m.od, m.hpl, m.hdl⟩
/-- A copy of a list. -/
structure LstC (base : Nat) (w : World) (h : HL) : Prop where
  hx : ∃ b, base ≤ b ∧ Acc encI 1 3 b w h.ao h.b h.cap h.xs
  ho : h.o = 0
  hl : h.xs.length ≤ 1000000
theorem LstC.sl {base : Nat} {w : World} {h : HL} (m : LstC base w h) : Sl encI 1 w h.ao h.b h.o h.xs ∧ h.xs.length ≤ 1000000 := by
  obtain ⟨b, _, h1⟩ := m.hx
  exact ⟨by rw [m.ho]; exact h1.sl (fun _ => rfl), m.hl⟩
theorem LstC.upd {base : Nat} {w w' : World} {S : Nat → Prop} {h : HL} (m : LstC base w h) (u : Upd S w w') (h1 : base ≤ h.b → ∀ cs, Blk w h.b 3 cs → ¬ S h.b) : LstC base w' h := by
  obtain ⟨b, hb, a⟩ := m.hx
  exact ⟨⟨b, hb, a.keep u fun q => by obtain ⟨cs, hB⟩ := a.blkT q; exact h1 (by omega) cs hB⟩, m.ho, m.hl⟩
theorem LstC.ext {base : Nat} {w w' : World} {h : HL} (m : LstC base w h) (u : Ext w w') : LstC base w' h := m.upd u (fun _ _ _ q => q)
theorem LstC.low {base base' : Nat} {w : World} {h : HL} (m : LstC base w h) (hb : base' ≤ base) : LstC base' w h := by
  obtain ⟨b, hb1, a⟩ := m.hx
  exact ⟨⟨b, by omega, a⟩, m.ho, m.hl⟩
/-- Blocks of other types are not turned by an append. -/
theorem Acc.notBlk {α : Type} {enc : α → List Value} {k : Nat} {e t : TypeId} {base b : Nat} {w : World} {ao : Option Addr} {g cap : Nat} {xs : List α} {cs : List Value} (h : Acc enc k e base w ao g cap xs) (hB : Blk w b t cs) (ht : e ≠ t) : ¬ (b = g ∧ base ≤ b) := fun q => by
  obtain ⟨q1, q2⟩ := q
  exact h.neBlk hB ht (q1 ▸ q2) q1.symm

theorem own19 : Own Try.prog 19 := ⟨Try.f19, Try.func19, by kernel_rfl, by kernel_rfl⟩
theorem own20 : Own Try.prog 20 := ⟨Try.f20, Try.func20, by kernel_rfl, by kernel_rfl⟩
set_option maxHeartbeats 1000000 in
theorem sailors_c (hs : List HS) (al : Option Addr) (bl ol cl : Nat) (w0 : World) (hl : Sl encHS 4 w0 al bl ol hs) (hll : hs.length ≤ 1000000) (hsm : ∀ h ∈ hs, SlrM w0 h) (hpos : 0 < w0.heap.size) :
    CallsV Try.prog 19 [.slice al hs.length cl] w0 (fun v w' => (∃ ao g cp out, v = .slice ao (List.length out) cp ∧ Acc encHS 4 74 w0.heap.size w' ao g cp out ∧ out.map HS.slr = hs.map HS.slr ∧ ∀ h ∈ out, SlrC w0.heap.size w' h) ∧ Ext w0 w') := by
 refine f_enter (N := 31) Try.func19 rfl rfl rfl (c_seq fun K1 hK1 => (c_region (t_assign rfl rfl rfl (t_nil' (hK1 _ _ (c_seq fun K2 hK2 => (c_region (t_bslice (ps := []) (cs := []) (e := 74) rfl rfl ⟨rfl, rfl⟩ (fun w => by kernel_rfl) (fun bk3 w4 ebk3 sbk3 B5 u6 => ?_)))))))))
 have zu6 := u6.size
 refine t_assign rfl rfl rfl (t_nil' (hK2 _ _ (c_seq fun K8 hK8 => (c_seq fun K9 hK9 => (c_region (t_assign rfl rfl rfl (t_nil' (hK9 _ _ (c_block (c_loop (γ := Nat × Option Addr × Nat × Nat × List HS) (fun gg => [(0, .slice al hs.length cl), (3, .slice gg.2.1 gg.2.2.2.2.length gg.2.2.2.1), (4, .int .i64 (gg.1 : Int))]) (fun gg w => Upd (fun i => bk3 ≤ i) w4 w ∧ (gg.1 ≤ hs.length) ∧ (Acc encHS 4 74 bk3 w gg.2.1 gg.2.2.1 gg.2.2.2.1 gg.2.2.2.2) ∧ (gg.2.2.2.2.map HS.slr = (hs.take gg.1).map HS.slr) ∧ (∀ h ∈ gg.2.2.2.2, SlrC bk3 w h)) (fun gg => hs.length - gg.1) (0, some ⟨bk3, 0, none⟩, bk3, 0, []) ⟨rfl, rfl, rfl, trivial⟩ ⟨Upd.refl _ _, (Nat.zero_le _), (Acc.ofRaw (cs := []) B5 (Nat.le_refl _) (Nat.le_refl _) (Nat.zero_le _) (by rfl) (by rfl)), rfl, (fun h hh => by cases hh)⟩ ?_))))))))))
 intro gg w11 hW K10 hK10
 obtain ⟨k, ao, go, co, out⟩ := gg
 change WC _ _ _ _ _ _ [(0, .slice al hs.length cl), (3, .slice ao out.length co), (4, .int .i64 (k : Int))] _
 change Upd (fun i => bk3 ≤ i) w4 w11 ∧ (k ≤ hs.length) ∧ (Acc encHS 4 74 bk3 w11 ao go co out) ∧ (out.map HS.slr = (hs.take k).map HS.slr) ∧ (∀ h ∈ out, SlrC bk3 w11 h) at hW
 obtain ⟨u12, I13, I14, I15, I16⟩ := hW
 have zu12 := u12.size
 have E17 := ((Upd.refl (fun _ => False) w0).nx u6).next u12 (fun i hi (h : bk3 ≤ i) => show False by first | omega | assumption)
 have hk := I13; clear I13
 have hout := I14; clear I14
 have hom := I15; clear I15
 have hoc := I16; clear I16
 have lt_go := hout.lt
 have hol : out.length = k := by have := congrArg List.length hom; simpa [List.length_take, Nat.min_eq_left hk] using this
 have hout0 := hout
 refine c_seq fun K18 hK18 => (c_seq fun K19 hK19 => (c_region (t_move rfl rfl rfl (t_move rfl rfl rfl (t_len Try.underlying62 rfl rfl rfl rfl (t_cmp rfl rfl rfl rfl rfl (t_nil' (hK19 _ _ (c_condp rfl (fun g10 => ?_) (fun g10 => ?_))))))))))
 ·
  refine c_skip (hK18 _ _ (c_seq fun K20 hK20 => (c_block (c_seq fun K21 hK21 => (c_region (t_move rfl rfl rfl (t_move rfl rfl rfl ?_)))))))
  have i22 : k < hs.length := (by omega)
  refine t_index (j := k) Try.underlying62 Try.sizeOf74 rfl rfl rfl rfl ((hl.keep E17 (fun _ h => h)).addr (by omega)) rfl i22 (t_loadN (vs := [.int .i64 ((nth hs k).f), .int .i64 ((nth hs k).u), .slice ((nth hs k).ap) ((nth hs k).ps.length) ((nth hs k).cp), .slice ((nth hs k).ad) ((nth hs k).ds.length) ((nth hs k).cd)]) Try.isAgg74 Try.sizeOf74 rfl rfl rfl (((hl.keep E17 (fun _ h => h)).at_ k (by omega)).sub 0 4) rfl (t_alloc (cs := [.int .i64 0, .int .i64 0, .slice none 0 0, .slice none 0 0]) Try.zeroValue74 rfl rfl rfl (fun bk23 w24 ebk23 sbk23 B25 u26 => ?_)))
  have zu26 := u26.size
  refine t_st (vs := [.int .i64 ((nth hs k).f), .int .i64 ((nth hs k).u), .slice ((nth hs k).ap) ((nth hs k).ps.length) ((nth hs k).cp), .slice ((nth hs k).ad) ((nth hs k).ds.length) ((nth hs k).cd)]) Try.sizeOf74 rfl rfl rfl B25 rfl rfl rfl rfl (fun w28 sw28 B30 u29 => ?_)
  have zu29 := u29.size
  have B30 : Blk w28 bk23 74 [.int .i64 ((nth hs k).f), .int .i64 ((nth hs k).u), .slice ((nth hs k).ap) ((nth hs k).ps.length) ((nth hs k).cp), .slice ((nth hs k).ad) ((nth hs k).ds.length) ((nth hs k).cd)] := B30
  refine t_nil' (hK21 _ _ (c_seq fun K32 hK32 => (c_drawnM follows (fun i => i = bk23) (.look 1 (.look 4 (.act 0 (.act 2 (.act 3 (.act 5 (.look 7 (.act 6 (.act 8 (.look 9 (.act 10 .done .stop)) .stop) .stop)) .stop) (.act 5 (.act 3 (.look 7 (.act 6 (.act 8 (.look 9 (.act 10 .done .stop)) .stop) .stop)) .stop) .stop)) (.act 5 (.act 2 (.act 3 (.look 7 (.act 6 (.act 8 (.look 9 (.act 10 .done .stop)) .stop) .stop)) .stop) .stop) .stop)) (.act 2 (.act 0 (.act 3 (.act 5 (.look 7 (.act 6 (.act 8 (.look 9 (.act 10 .done .stop)) .stop) .stop)) .stop) (.act 5 (.act 3 (.look 7 (.act 6 (.act 8 (.look 9 (.act 10 .done .stop)) .stop) .stop)) .stop) .stop)) (.act 5 (.act 0 (.act 3 (.look 7 (.act 6 (.act 8 (.look 9 (.act 10 .done .stop)) .stop) .stop)) .stop) .stop) .stop)) (.act 5 (.act 0 (.act 2 (.act 3 (.look 7 (.act 6 (.act 8 (.look 9 (.act 10 .done .stop)) .stop) .stop)) .stop) .stop) (.act 2 (.act 0 (.act 3 (.look 7 (.act 6 (.act 8 (.look 9 (.act 10 .done .stop)) .stop) .stop)) .stop) .stop) .stop)) .stop))))) (by kernel_rfl) fun w33 u34 => ?_)))
  have zu34 := u34.size
  have E35 := ((E17.nx u26).next u29 (fun i hi h => by omega)).nx u34
  refine y_field Try.underlying74 rfl Try.sizeOf72 (2) rfl rfl rfl rfl (y_field Try.underlying74 rfl Try.sizeOf30 (3) rfl rfl rfl rfl (s_or ?_ ?_))
  ·
   refine s_do (t_bslice (ps := []) (cs := []) (e := 107) rfl rfl ⟨rfl, rfl⟩ (fun w => by kernel_rfl) (fun bk36 w37 ebk36 sbk36 B38 u39 => ?_))
   have zu39 := u39.size
   have E40 := E35.nx u39
   refine s_next ((Upd.refl _ _).nx u39) (s_or ?_ ?_)
   ·
    refine s_do ?_
    have B41 := ((B30.kx u34).kx u39)
    refine t_load Try.isAgg72 rfl rfl rfl (B41.get rfl) (s_next (Upd.refl _ _) (s_or ?_ ?_))
    ·
     refine s_do (t_copy (enc := encPpr) (z := .agg #[.int .i64 0, .int .i64 0]) (bytes := 16) (k := 2) (ys := (nth hs k).ps) Try.underlying72 (by kernel_rfl) rfl (by decide) (fun _ => rfl) (by intro x; simp [encPpr, Value.oneCell']) rfl rfl rfl rfl B38 ((hsm (nth hs k) (nth_mem (by omega))).hp.keep E40 (fun _ => fun h => h)) (hsm (nth hs k) (nth_mem (by omega))).hpl (by decide) (fun ao42 gb43 cp44 w45 A46 u47 gegb43 => ?_))
     have zu47 := u47.size
     have lt_gb43 := A46.lt
     refine s_next ((Upd.refl _ _).next u47 (fun i hi (h : (i = bk36 ∧ bk36 ≤ i)) => show w33.heap.size ≤ i ∨ (i = bk23) by first | omega | exact .inr h)) (s_do ?_)
     have B49 := (B41.keep u47 (by omega))
     refine t_load Try.isAgg30 rfl rfl rfl (B49.get rfl) (s_next (Upd.refl _ _) (y_field Try.underlying74 rfl Try.sizeOf72 (2) rfl rfl rfl rfl (s_do (t_call own11 rfl rfl rfl rfl (duties_c ((nth hs k).ds) ((nth hs k).ad) (nth hs k).bd ((nth hs k).od) ((nth hs k).cd) _ ((hsm (nth hs k) (nth_mem (by omega))).hd.keep (E40.next u47 (fun i hi h => by omega)) (fun _ => fun h => h)) (hsm (nth hs k) (nth_mem (by omega))).hdl (by omega)) (fun v51 w52 r54 => ?_)))))
     obtain ⟨⟨aoY50, gY50, cY50, rfl, haY50⟩, u53⟩ := r54
     have zu53 := u53.size
     have lt_gY50 := haY50.lt
     refine s_next ((Upd.refl _ _).nx u53) (s_do ?_)
     have B56 := (B49.kx u53)
     refine t_st (vs := [.slice ao42 (((nth hs k).ps).length) cp44]) Try.sizeOf72 rfl rfl rfl B56 rfl rfl rfl rfl (fun w57 sw57 B59 u58 => ?_)
     have zu58 := u58.size
     have B59 : Blk w57 bk23 74 [.int .i64 ((nth hs k).f), .int .i64 ((nth hs k).u), .slice ao42 (((nth hs k).ps).length) cp44, .slice ((nth hs k).ad) ((nth hs k).ds.length) ((nth hs k).cd)] := B59
     refine s_next ((Upd.refl _ _).next u58 (fun i hi (h : i = bk23) => show w33.heap.size ≤ i ∨ (i = bk23) by first | omega | exact .inr h)) (y_field Try.underlying74 rfl Try.sizeOf30 (3) rfl rfl rfl rfl (s_do (t_st (vs := [.slice aoY50 (((nth hs k).ds).length) cY50]) Try.sizeOf30 rfl rfl rfl B59 rfl rfl rfl rfl (fun w61 sw61 B63 u62 => ?_))))
     have zu62 := u62.size
     have B63 : Blk w61 bk23 74 [.int .i64 ((nth hs k).f), .int .i64 ((nth hs k).u), .slice ao42 (((nth hs k).ps).length) cp44, .slice aoY50 (((nth hs k).ds).length) cY50] := B63
     refine s_next ((Upd.refl _ _).next u62 (fun i hi (h : i = bk23) => show w33.heap.size ≤ i ∨ (i = bk23) by first | omega | exact .inr h)) (s_nil (hK32 _ _ (c_region (t_move rfl rfl rfl (t_loadN (vs := [.int .i64 ((nth hs k).f), .int .i64 ((nth hs k).u), .slice ao42 (((nth hs k).ps).length) cp44, .slice aoY50 (((nth hs k).ds).length) cY50]) Try.isAgg74 Try.sizeOf74 rfl rfl rfl (B63.at.sub 0 4) rfl (t_bslice (ps := [(0, .agg #[.int .i64 ((nth hs k).f), .int .i64 ((nth hs k).u), .slice ao42 (((nth hs k).ps).length) cp44, .slice aoY50 (((nth hs k).ds).length) cY50])]) (cs := [.int .i64 ((nth hs k).f), .int .i64 ((nth hs k).u), .slice ao42 (((nth hs k).ps).length) cp44, .slice aoY50 (((nth hs k).ds).length) cY50]) (e := 74) rfl rfl ⟨rfl, rfl⟩ (fun w => by kernel_rfl) (fun bk65 w66 ebk65 sbk65 B67 u68 => ?_)))))))
     have zu68 := u68.size
     have D70 := (((((((((hout.keep u26 (fun _ h => h)).keep u29 (fun hb => show ¬ (go = bk23) by first | omega | assumption)).keep u34 (fun _ h => h)).keep u39 (fun _ h => h)).keep u47 (fun hb => show ¬ ((go = bk36 ∧ bk36 ≤ go)) by first | omega | assumption)).keep u53 (fun _ h => h)).keep u58 (fun hb => show ¬ (go = bk23) by first | omega | assumption)).keep u62 (fun hb => show ¬ (go = bk23) by first | omega | assumption)).keep u68 (fun _ h => h))
     refine t_append (z := .agg #[.int .i64 0, .int .i64 0, .slice none 0 0, .slice none 0 0]) (bytes := 64) (k := 4) (base := bk3) (⟨(nth hs k).f, (nth hs k).u, (nth hs k).ps, ao42, gb43, 0, cp44, (nth hs k).ds, aoY50, gY50, 0, cY50⟩ : HS) Try.underlying62 (by kernel_rfl) rfl (by decide) (fun _ => rfl) (by intro x; simp [encHS, Value.oneCell']) rfl rfl rfl rfl D70 B67 (by omega) (by omega) (by decide) (fun ao71 gb72 cp73 w74 A75 u76 gegb72 lngb72 => ?_)
     have zu76 := u76.size
     have lt_gb72 := A75.lt
     refine t_assign rfl rfl rfl (t_nil' (hK20 _ _ (c_region (t_move rfl rfl rfl (t_ari rfl rfl rfl rfl rfl (by omega) (t_assign rfl rfl rfl (t_nil' ?_)))))))
     have D78 := (((((A46.keep u53 (fun _ h => h)).keep u58 (fun hb => show ¬ (gb43 = bk23) by first | omega | assumption)).keep u62 (fun hb => show ¬ (gb43 = bk23) by first | omega | assumption)).keep u68 (fun _ h => h)).keep u76 (fun hb => show ¬ ((gb43 = go ∧ bk3 ≤ gb43)) by first | omega | assumption))
     have D79 := ((((haY50.keep u58 (fun hb => show ¬ (gY50 = bk23) by first | omega | assumption)).keep u62 (fun hb => show ¬ (gY50 = bk23) by first | omega | assumption)).keep u68 (fun _ h => h)).keep u76 (fun hb => show ¬ ((gY50 = go ∧ bk3 ≤ gY50)) by first | omega | assumption))
     have uR := (((((((((((Upd.refl (fun i => i = go ∧ bk3 ≤ i) w11).next u26 (fun _ _ h => h.elim)).next u29 (fun i hi (h : i = bk23) => show i = go ∧ bk3 ≤ i by omega)).next u34 (fun _ _ h => h.elim)).next u39 (fun _ _ h => h.elim)).next u47 (fun i hi (h : (i = bk36 ∧ bk36 ≤ i)) => show i = go ∧ bk3 ≤ i by omega)).next u53 (fun _ _ h => h.elim)).next u58 (fun i hi (h : i = bk23) => show i = go ∧ bk3 ≤ i by omega)).next u62 (fun i hi (h : i = bk23) => show i = go ∧ bk3 ≤ i by omega)).next u68 (fun _ _ h => h.elim)).next u76 (fun i hi (h : (i = go ∧ bk3 ≤ i)) => show i = go ∧ bk3 ≤ i by omega))
     have hpA := D78
     have hdA := D79
     exact hK10 (k + 1, ao71, gb72, cp73, (out ++ [(⟨(nth hs k).f, (nth hs k).u, (nth hs k).ps, ao42, gb43, 0, cp44, (nth hs k).ds, aoY50, gY50, 0, cY50⟩ : HS)])) _ _ (by show hs.length - (k + 1) < hs.length - k; omega) ⟨rfl, rfl, rfl, trivial⟩ ⟨((((((((((u12.next u26 (fun _ _ h => h.elim)).next u29 (fun i hi (h : i = bk23) => show bk3 ≤ i by first | omega | assumption)).next u34 (fun _ _ h => h.elim)).next u39 (fun _ _ h => h.elim)).next u47 (fun i hi (h : (i = bk36 ∧ bk36 ≤ i)) => show bk3 ≤ i by first | omega | assumption)).next u53 (fun _ _ h => h.elim)).next u58 (fun i hi (h : i = bk23) => show bk3 ≤ i by first | omega | assumption)).next u62 (fun i hi (h : i = bk23) => show bk3 ≤ i by first | omega | assumption)).next u68 (fun _ _ h => h.elim)).next u76 (fun i hi (h : (i = go ∧ bk3 ≤ i)) => show bk3 ≤ i by first | omega | assumption)), (by omega), A75, (by rw [List.map_append, hom, take_nth (by omega), List.map_append]; rfl), (fun h hh => by
       rcases List.mem_append.1 hh with q | q
       · exact (hoc h q).upd uR (fun _ cs hB => hout0.notBlk hB (by decide)) (fun _ cs hB => hout0.notBlk hB (by decide))
       · rw [List.mem_singleton.1 q]; have hs9 := hsm (nth hs k) (nth_mem (by omega)); exact ⟨⟨_, by omega, hpA⟩, rfl, ⟨_, by omega, hdA⟩, rfl, hs9.hpl, hs9.hdl⟩)⟩
    refine s_do (t_load Try.isAgg30 rfl rfl rfl (B41.get rfl) (s_next (Upd.refl _ _) (s_do (t_copy (enc := encPpr) (z := .agg #[.int .i64 0, .int .i64 0]) (bytes := 16) (k := 2) (ys := (nth hs k).ps) Try.underlying72 (by kernel_rfl) rfl (by decide) (fun _ => rfl) (by intro x; simp [encPpr, Value.oneCell']) rfl rfl rfl rfl B38 ((hsm (nth hs k) (nth_mem (by omega))).hp.keep E40 (fun _ => fun h => h)) (hsm (nth hs k) (nth_mem (by omega))).hpl (by decide) (fun ao80 gb81 cp82 w83 A84 u85 gegb81 => ?_)))))
    have zu85 := u85.size
    have lt_gb81 := A84.lt
    refine s_next ((Upd.refl _ _).next u85 (fun i hi (h : (i = bk36 ∧ bk36 ≤ i)) => show w33.heap.size ≤ i ∨ (i = bk23) by first | omega | exact .inr h)) (y_field Try.underlying74 rfl Try.sizeOf72 (2) rfl rfl rfl rfl (s_do (t_call own11 rfl rfl rfl rfl (duties_c ((nth hs k).ds) ((nth hs k).ad) (nth hs k).bd ((nth hs k).od) ((nth hs k).cd) _ ((hsm (nth hs k) (nth_mem (by omega))).hd.keep (E40.next u85 (fun i hi h => by omega)) (fun _ => fun h => h)) (hsm (nth hs k) (nth_mem (by omega))).hdl (by omega)) (fun v88 w89 r91 => ?_))))
    obtain ⟨⟨aoY87, gY87, cY87, rfl, haY87⟩, u90⟩ := r91
    have zu90 := u90.size
    have lt_gY87 := haY87.lt
    refine s_next ((Upd.refl _ _).nx u90) (s_do ?_)
    have B93 := ((B41.keep u85 (by omega)).kx u90)
    refine t_st (vs := [.slice ao80 (((nth hs k).ps).length) cp82]) Try.sizeOf72 rfl rfl rfl B93 rfl rfl rfl rfl (fun w94 sw94 B96 u95 => ?_)
    have zu95 := u95.size
    have B96 : Blk w94 bk23 74 [.int .i64 ((nth hs k).f), .int .i64 ((nth hs k).u), .slice ao80 (((nth hs k).ps).length) cp82, .slice ((nth hs k).ad) ((nth hs k).ds.length) ((nth hs k).cd)] := B96
    refine s_next ((Upd.refl _ _).next u95 (fun i hi (h : i = bk23) => show w33.heap.size ≤ i ∨ (i = bk23) by first | omega | exact .inr h)) (y_field Try.underlying74 rfl Try.sizeOf30 (3) rfl rfl rfl rfl (s_do (t_st (vs := [.slice aoY87 (((nth hs k).ds).length) cY87]) Try.sizeOf30 rfl rfl rfl B96 rfl rfl rfl rfl (fun w98 sw98 B100 u99 => ?_))))
    have zu99 := u99.size
    have B100 : Blk w98 bk23 74 [.int .i64 ((nth hs k).f), .int .i64 ((nth hs k).u), .slice ao80 (((nth hs k).ps).length) cp82, .slice aoY87 (((nth hs k).ds).length) cY87] := B100
    refine s_next ((Upd.refl _ _).next u99 (fun i hi (h : i = bk23) => show w33.heap.size ≤ i ∨ (i = bk23) by first | omega | exact .inr h)) (s_nil (hK32 _ _ (c_region (t_move rfl rfl rfl (t_loadN (vs := [.int .i64 ((nth hs k).f), .int .i64 ((nth hs k).u), .slice ao80 (((nth hs k).ps).length) cp82, .slice aoY87 (((nth hs k).ds).length) cY87]) Try.isAgg74 Try.sizeOf74 rfl rfl rfl (B100.at.sub 0 4) rfl (t_bslice (ps := [(0, .agg #[.int .i64 ((nth hs k).f), .int .i64 ((nth hs k).u), .slice ao80 (((nth hs k).ps).length) cp82, .slice aoY87 (((nth hs k).ds).length) cY87])]) (cs := [.int .i64 ((nth hs k).f), .int .i64 ((nth hs k).u), .slice ao80 (((nth hs k).ps).length) cp82, .slice aoY87 (((nth hs k).ds).length) cY87]) (e := 74) rfl rfl ⟨rfl, rfl⟩ (fun w => by kernel_rfl) (fun bk102 w103 ebk102 sbk102 B104 u105 => ?_)))))))
    have zu105 := u105.size
    have D107 := (((((((((hout.keep u26 (fun _ h => h)).keep u29 (fun hb => show ¬ (go = bk23) by first | omega | assumption)).keep u34 (fun _ h => h)).keep u39 (fun _ h => h)).keep u85 (fun hb => show ¬ ((go = bk36 ∧ bk36 ≤ go)) by first | omega | assumption)).keep u90 (fun _ h => h)).keep u95 (fun hb => show ¬ (go = bk23) by first | omega | assumption)).keep u99 (fun hb => show ¬ (go = bk23) by first | omega | assumption)).keep u105 (fun _ h => h))
    refine t_append (z := .agg #[.int .i64 0, .int .i64 0, .slice none 0 0, .slice none 0 0]) (bytes := 64) (k := 4) (base := bk3) (⟨(nth hs k).f, (nth hs k).u, (nth hs k).ps, ao80, gb81, 0, cp82, (nth hs k).ds, aoY87, gY87, 0, cY87⟩ : HS) Try.underlying62 (by kernel_rfl) rfl (by decide) (fun _ => rfl) (by intro x; simp [encHS, Value.oneCell']) rfl rfl rfl rfl D107 B104 (by omega) (by omega) (by decide) (fun ao108 gb109 cp110 w111 A112 u113 gegb109 lngb109 => ?_)
    have zu113 := u113.size
    have lt_gb109 := A112.lt
    refine t_assign rfl rfl rfl (t_nil' (hK20 _ _ (c_region (t_move rfl rfl rfl (t_ari rfl rfl rfl rfl rfl (by omega) (t_assign rfl rfl rfl (t_nil' ?_)))))))
    have D115 := (((((A84.keep u90 (fun _ h => h)).keep u95 (fun hb => show ¬ (gb81 = bk23) by first | omega | assumption)).keep u99 (fun hb => show ¬ (gb81 = bk23) by first | omega | assumption)).keep u105 (fun _ h => h)).keep u113 (fun hb => show ¬ ((gb81 = go ∧ bk3 ≤ gb81)) by first | omega | assumption))
    have D116 := ((((haY87.keep u95 (fun hb => show ¬ (gY87 = bk23) by first | omega | assumption)).keep u99 (fun hb => show ¬ (gY87 = bk23) by first | omega | assumption)).keep u105 (fun _ h => h)).keep u113 (fun hb => show ¬ ((gY87 = go ∧ bk3 ≤ gY87)) by first | omega | assumption))
    have uR := (((((((((((Upd.refl (fun i => i = go ∧ bk3 ≤ i) w11).next u26 (fun _ _ h => h.elim)).next u29 (fun i hi (h : i = bk23) => show i = go ∧ bk3 ≤ i by omega)).next u34 (fun _ _ h => h.elim)).next u39 (fun _ _ h => h.elim)).next u85 (fun i hi (h : (i = bk36 ∧ bk36 ≤ i)) => show i = go ∧ bk3 ≤ i by omega)).next u90 (fun _ _ h => h.elim)).next u95 (fun i hi (h : i = bk23) => show i = go ∧ bk3 ≤ i by omega)).next u99 (fun i hi (h : i = bk23) => show i = go ∧ bk3 ≤ i by omega)).next u105 (fun _ _ h => h.elim)).next u113 (fun i hi (h : (i = go ∧ bk3 ≤ i)) => show i = go ∧ bk3 ≤ i by omega))
    have hpA := D115
    have hdA := D116
    exact hK10 (k + 1, ao108, gb109, cp110, (out ++ [(⟨(nth hs k).f, (nth hs k).u, (nth hs k).ps, ao80, gb81, 0, cp82, (nth hs k).ds, aoY87, gY87, 0, cY87⟩ : HS)])) _ _ (by show hs.length - (k + 1) < hs.length - k; omega) ⟨rfl, rfl, rfl, trivial⟩ ⟨((((((((((u12.next u26 (fun _ _ h => h.elim)).next u29 (fun i hi (h : i = bk23) => show bk3 ≤ i by first | omega | assumption)).next u34 (fun _ _ h => h.elim)).next u39 (fun _ _ h => h.elim)).next u85 (fun i hi (h : (i = bk36 ∧ bk36 ≤ i)) => show bk3 ≤ i by first | omega | assumption)).next u90 (fun _ _ h => h.elim)).next u95 (fun i hi (h : i = bk23) => show bk3 ≤ i by first | omega | assumption)).next u99 (fun i hi (h : i = bk23) => show bk3 ≤ i by first | omega | assumption)).next u105 (fun _ _ h => h.elim)).next u113 (fun i hi (h : (i = go ∧ bk3 ≤ i)) => show bk3 ≤ i by first | omega | assumption)), (by omega), A112, (by rw [List.map_append, hom, take_nth (by omega), List.map_append]; rfl), (fun h hh => by
      rcases List.mem_append.1 hh with q | q
      · exact (hoc h q).upd uR (fun _ cs hB => hout0.notBlk hB (by decide)) (fun _ cs hB => hout0.notBlk hB (by decide))
      · rw [List.mem_singleton.1 q]; have hs9 := hsm (nth hs k) (nth_mem (by omega)); exact ⟨⟨_, by omega, hpA⟩, rfl, ⟨_, by omega, hdA⟩, rfl, hs9.hpl, hs9.hdl⟩)⟩
   refine s_do ?_
   have B117 := ((B30.kx u34).kx u39)
   refine t_load Try.isAgg30 rfl rfl rfl (B117.get rfl) (s_next (Upd.refl _ _) (s_do (t_load Try.isAgg72 rfl rfl rfl (B117.get rfl) (s_next (Upd.refl _ _) (s_do (t_copy (enc := encPpr) (z := .agg #[.int .i64 0, .int .i64 0]) (bytes := 16) (k := 2) (ys := (nth hs k).ps) Try.underlying72 (by kernel_rfl) rfl (by decide) (fun _ => rfl) (by intro x; simp [encPpr, Value.oneCell']) rfl rfl rfl rfl B38 ((hsm (nth hs k) (nth_mem (by omega))).hp.keep E40 (fun _ => fun h => h)) (hsm (nth hs k) (nth_mem (by omega))).hpl (by decide) (fun ao118 gb119 cp120 w121 A122 u123 gegb119 => ?_)))))))
   have zu123 := u123.size
   have lt_gb119 := A122.lt
   refine s_next ((Upd.refl _ _).next u123 (fun i hi (h : (i = bk36 ∧ bk36 ≤ i)) => show w33.heap.size ≤ i ∨ (i = bk23) by first | omega | exact .inr h)) (y_field Try.underlying74 rfl Try.sizeOf72 (2) rfl rfl rfl rfl (s_do (t_call own11 rfl rfl rfl rfl (duties_c ((nth hs k).ds) ((nth hs k).ad) (nth hs k).bd ((nth hs k).od) ((nth hs k).cd) _ ((hsm (nth hs k) (nth_mem (by omega))).hd.keep (E40.next u123 (fun i hi h => by omega)) (fun _ => fun h => h)) (hsm (nth hs k) (nth_mem (by omega))).hdl (by omega)) (fun v126 w127 r129 => ?_))))
   obtain ⟨⟨aoY125, gY125, cY125, rfl, haY125⟩, u128⟩ := r129
   have zu128 := u128.size
   have lt_gY125 := haY125.lt
   refine s_next ((Upd.refl _ _).nx u128) (s_do ?_)
   have B131 := ((B117.keep u123 (by omega)).kx u128)
   refine t_st (vs := [.slice ao118 (((nth hs k).ps).length) cp120]) Try.sizeOf72 rfl rfl rfl B131 rfl rfl rfl rfl (fun w132 sw132 B134 u133 => ?_)
   have zu133 := u133.size
   have B134 : Blk w132 bk23 74 [.int .i64 ((nth hs k).f), .int .i64 ((nth hs k).u), .slice ao118 (((nth hs k).ps).length) cp120, .slice ((nth hs k).ad) ((nth hs k).ds.length) ((nth hs k).cd)] := B134
   refine s_next ((Upd.refl _ _).next u133 (fun i hi (h : i = bk23) => show w33.heap.size ≤ i ∨ (i = bk23) by first | omega | exact .inr h)) (y_field Try.underlying74 rfl Try.sizeOf30 (3) rfl rfl rfl rfl (s_do (t_st (vs := [.slice aoY125 (((nth hs k).ds).length) cY125]) Try.sizeOf30 rfl rfl rfl B134 rfl rfl rfl rfl (fun w136 sw136 B138 u137 => ?_))))
   have zu137 := u137.size
   have B138 : Blk w136 bk23 74 [.int .i64 ((nth hs k).f), .int .i64 ((nth hs k).u), .slice ao118 (((nth hs k).ps).length) cp120, .slice aoY125 (((nth hs k).ds).length) cY125] := B138
   refine s_next ((Upd.refl _ _).next u137 (fun i hi (h : i = bk23) => show w33.heap.size ≤ i ∨ (i = bk23) by first | omega | exact .inr h)) (s_nil (hK32 _ _ (c_region (t_move rfl rfl rfl (t_loadN (vs := [.int .i64 ((nth hs k).f), .int .i64 ((nth hs k).u), .slice ao118 (((nth hs k).ps).length) cp120, .slice aoY125 (((nth hs k).ds).length) cY125]) Try.isAgg74 Try.sizeOf74 rfl rfl rfl (B138.at.sub 0 4) rfl (t_bslice (ps := [(0, .agg #[.int .i64 ((nth hs k).f), .int .i64 ((nth hs k).u), .slice ao118 (((nth hs k).ps).length) cp120, .slice aoY125 (((nth hs k).ds).length) cY125])]) (cs := [.int .i64 ((nth hs k).f), .int .i64 ((nth hs k).u), .slice ao118 (((nth hs k).ps).length) cp120, .slice aoY125 (((nth hs k).ds).length) cY125]) (e := 74) rfl rfl ⟨rfl, rfl⟩ (fun w => by kernel_rfl) (fun bk140 w141 ebk140 sbk140 B142 u143 => ?_)))))))
   have zu143 := u143.size
   have D145 := (((((((((hout.keep u26 (fun _ h => h)).keep u29 (fun hb => show ¬ (go = bk23) by first | omega | assumption)).keep u34 (fun _ h => h)).keep u39 (fun _ h => h)).keep u123 (fun hb => show ¬ ((go = bk36 ∧ bk36 ≤ go)) by first | omega | assumption)).keep u128 (fun _ h => h)).keep u133 (fun hb => show ¬ (go = bk23) by first | omega | assumption)).keep u137 (fun hb => show ¬ (go = bk23) by first | omega | assumption)).keep u143 (fun _ h => h))
   refine t_append (z := .agg #[.int .i64 0, .int .i64 0, .slice none 0 0, .slice none 0 0]) (bytes := 64) (k := 4) (base := bk3) (⟨(nth hs k).f, (nth hs k).u, (nth hs k).ps, ao118, gb119, 0, cp120, (nth hs k).ds, aoY125, gY125, 0, cY125⟩ : HS) Try.underlying62 (by kernel_rfl) rfl (by decide) (fun _ => rfl) (by intro x; simp [encHS, Value.oneCell']) rfl rfl rfl rfl D145 B142 (by omega) (by omega) (by decide) (fun ao146 gb147 cp148 w149 A150 u151 gegb147 lngb147 => ?_)
   have zu151 := u151.size
   have lt_gb147 := A150.lt
   refine t_assign rfl rfl rfl (t_nil' (hK20 _ _ (c_region (t_move rfl rfl rfl (t_ari rfl rfl rfl rfl rfl (by omega) (t_assign rfl rfl rfl (t_nil' ?_)))))))
   have D153 := (((((A122.keep u128 (fun _ h => h)).keep u133 (fun hb => show ¬ (gb119 = bk23) by first | omega | assumption)).keep u137 (fun hb => show ¬ (gb119 = bk23) by first | omega | assumption)).keep u143 (fun _ h => h)).keep u151 (fun hb => show ¬ ((gb119 = go ∧ bk3 ≤ gb119)) by first | omega | assumption))
   have D154 := ((((haY125.keep u133 (fun hb => show ¬ (gY125 = bk23) by first | omega | assumption)).keep u137 (fun hb => show ¬ (gY125 = bk23) by first | omega | assumption)).keep u143 (fun _ h => h)).keep u151 (fun hb => show ¬ ((gY125 = go ∧ bk3 ≤ gY125)) by first | omega | assumption))
   have uR := (((((((((((Upd.refl (fun i => i = go ∧ bk3 ≤ i) w11).next u26 (fun _ _ h => h.elim)).next u29 (fun i hi (h : i = bk23) => show i = go ∧ bk3 ≤ i by omega)).next u34 (fun _ _ h => h.elim)).next u39 (fun _ _ h => h.elim)).next u123 (fun i hi (h : (i = bk36 ∧ bk36 ≤ i)) => show i = go ∧ bk3 ≤ i by omega)).next u128 (fun _ _ h => h.elim)).next u133 (fun i hi (h : i = bk23) => show i = go ∧ bk3 ≤ i by omega)).next u137 (fun i hi (h : i = bk23) => show i = go ∧ bk3 ≤ i by omega)).next u143 (fun _ _ h => h.elim)).next u151 (fun i hi (h : (i = go ∧ bk3 ≤ i)) => show i = go ∧ bk3 ≤ i by omega))
   have hpA := D153
   have hdA := D154
   exact hK10 (k + 1, ao146, gb147, cp148, (out ++ [(⟨(nth hs k).f, (nth hs k).u, (nth hs k).ps, ao118, gb119, 0, cp120, (nth hs k).ds, aoY125, gY125, 0, cY125⟩ : HS)])) _ _ (by show hs.length - (k + 1) < hs.length - k; omega) ⟨rfl, rfl, rfl, trivial⟩ ⟨((((((((((u12.next u26 (fun _ _ h => h.elim)).next u29 (fun i hi (h : i = bk23) => show bk3 ≤ i by first | omega | assumption)).next u34 (fun _ _ h => h.elim)).next u39 (fun _ _ h => h.elim)).next u123 (fun i hi (h : (i = bk36 ∧ bk36 ≤ i)) => show bk3 ≤ i by first | omega | assumption)).next u128 (fun _ _ h => h.elim)).next u133 (fun i hi (h : i = bk23) => show bk3 ≤ i by first | omega | assumption)).next u137 (fun i hi (h : i = bk23) => show bk3 ≤ i by first | omega | assumption)).next u143 (fun _ _ h => h.elim)).next u151 (fun i hi (h : (i = go ∧ bk3 ≤ i)) => show bk3 ≤ i by first | omega | assumption)), (by omega), A150, (by rw [List.map_append, hom, take_nth (by omega), List.map_append]; rfl), (fun h hh => by
     rcases List.mem_append.1 hh with q | q
     · exact (hoc h q).upd uR (fun _ cs hB => hout0.notBlk hB (by decide)) (fun _ cs hB => hout0.notBlk hB (by decide))
     · rw [List.mem_singleton.1 q]; have hs9 := hsm (nth hs k) (nth_mem (by omega)); exact ⟨⟨_, by omega, hpA⟩, rfl, ⟨_, by omega, hdA⟩, rfl, hs9.hpl, hs9.hdl⟩)⟩
  refine s_or ?_ ?_
  ·
   refine s_do ?_
   have B155 := (B30.kx u34)
   refine t_load Try.isAgg72 rfl rfl rfl (B155.get rfl) (s_next (Upd.refl _ _) (s_or ?_ ?_))
   ·
    refine s_do (t_bslice (ps := []) (cs := []) (e := 107) rfl rfl ⟨rfl, rfl⟩ (fun w => by kernel_rfl) (fun bk156 w157 ebk156 sbk156 B158 u159 => ?_))
    have zu159 := u159.size
    have E160 := E35.nx u159
    refine s_next ((Upd.refl _ _).nx u159) (s_or ?_ ?_)
    ·
     refine s_do (t_copy (enc := encPpr) (z := .agg #[.int .i64 0, .int .i64 0]) (bytes := 16) (k := 2) (ys := (nth hs k).ps) Try.underlying72 (by kernel_rfl) rfl (by decide) (fun _ => rfl) (by intro x; simp [encPpr, Value.oneCell']) rfl rfl rfl rfl B158 ((hsm (nth hs k) (nth_mem (by omega))).hp.keep E160 (fun _ => fun h => h)) (hsm (nth hs k) (nth_mem (by omega))).hpl (by decide) (fun ao161 gb162 cp163 w164 A165 u166 gegb162 => ?_))
     have zu166 := u166.size
     have lt_gb162 := A165.lt
     refine s_next ((Upd.refl _ _).next u166 (fun i hi (h : (i = bk156 ∧ bk156 ≤ i)) => show w33.heap.size ≤ i ∨ (i = bk23) by first | omega | exact .inr h)) (s_do ?_)
     have B168 := ((B155.kx u159).keep u166 (by omega))
     refine t_load Try.isAgg30 rfl rfl rfl (B168.get rfl) (s_next (Upd.refl _ _) (y_field Try.underlying74 rfl Try.sizeOf72 (2) rfl rfl rfl rfl (s_do (t_call own11 rfl rfl rfl rfl (duties_c ((nth hs k).ds) ((nth hs k).ad) (nth hs k).bd ((nth hs k).od) ((nth hs k).cd) _ ((hsm (nth hs k) (nth_mem (by omega))).hd.keep (E160.next u166 (fun i hi h => by omega)) (fun _ => fun h => h)) (hsm (nth hs k) (nth_mem (by omega))).hdl (by omega)) (fun v170 w171 r173 => ?_)))))
     obtain ⟨⟨aoY169, gY169, cY169, rfl, haY169⟩, u172⟩ := r173
     have zu172 := u172.size
     have lt_gY169 := haY169.lt
     refine s_next ((Upd.refl _ _).nx u172) (s_do ?_)
     have B175 := (B168.kx u172)
     refine t_st (vs := [.slice ao161 (((nth hs k).ps).length) cp163]) Try.sizeOf72 rfl rfl rfl B175 rfl rfl rfl rfl (fun w176 sw176 B178 u177 => ?_)
     have zu177 := u177.size
     have B178 : Blk w176 bk23 74 [.int .i64 ((nth hs k).f), .int .i64 ((nth hs k).u), .slice ao161 (((nth hs k).ps).length) cp163, .slice ((nth hs k).ad) ((nth hs k).ds.length) ((nth hs k).cd)] := B178
     refine s_next ((Upd.refl _ _).next u177 (fun i hi (h : i = bk23) => show w33.heap.size ≤ i ∨ (i = bk23) by first | omega | exact .inr h)) (y_field Try.underlying74 rfl Try.sizeOf30 (3) rfl rfl rfl rfl (s_do (t_st (vs := [.slice aoY169 (((nth hs k).ds).length) cY169]) Try.sizeOf30 rfl rfl rfl B178 rfl rfl rfl rfl (fun w180 sw180 B182 u181 => ?_))))
     have zu181 := u181.size
     have B182 : Blk w180 bk23 74 [.int .i64 ((nth hs k).f), .int .i64 ((nth hs k).u), .slice ao161 (((nth hs k).ps).length) cp163, .slice aoY169 (((nth hs k).ds).length) cY169] := B182
     refine s_next ((Upd.refl _ _).next u181 (fun i hi (h : i = bk23) => show w33.heap.size ≤ i ∨ (i = bk23) by first | omega | exact .inr h)) (s_nil (hK32 _ _ (c_region (t_move rfl rfl rfl (t_loadN (vs := [.int .i64 ((nth hs k).f), .int .i64 ((nth hs k).u), .slice ao161 (((nth hs k).ps).length) cp163, .slice aoY169 (((nth hs k).ds).length) cY169]) Try.isAgg74 Try.sizeOf74 rfl rfl rfl (B182.at.sub 0 4) rfl (t_bslice (ps := [(0, .agg #[.int .i64 ((nth hs k).f), .int .i64 ((nth hs k).u), .slice ao161 (((nth hs k).ps).length) cp163, .slice aoY169 (((nth hs k).ds).length) cY169])]) (cs := [.int .i64 ((nth hs k).f), .int .i64 ((nth hs k).u), .slice ao161 (((nth hs k).ps).length) cp163, .slice aoY169 (((nth hs k).ds).length) cY169]) (e := 74) rfl rfl ⟨rfl, rfl⟩ (fun w => by kernel_rfl) (fun bk184 w185 ebk184 sbk184 B186 u187 => ?_)))))))
     have zu187 := u187.size
     have D189 := (((((((((hout.keep u26 (fun _ h => h)).keep u29 (fun hb => show ¬ (go = bk23) by first | omega | assumption)).keep u34 (fun _ h => h)).keep u159 (fun _ h => h)).keep u166 (fun hb => show ¬ ((go = bk156 ∧ bk156 ≤ go)) by first | omega | assumption)).keep u172 (fun _ h => h)).keep u177 (fun hb => show ¬ (go = bk23) by first | omega | assumption)).keep u181 (fun hb => show ¬ (go = bk23) by first | omega | assumption)).keep u187 (fun _ h => h))
     refine t_append (z := .agg #[.int .i64 0, .int .i64 0, .slice none 0 0, .slice none 0 0]) (bytes := 64) (k := 4) (base := bk3) (⟨(nth hs k).f, (nth hs k).u, (nth hs k).ps, ao161, gb162, 0, cp163, (nth hs k).ds, aoY169, gY169, 0, cY169⟩ : HS) Try.underlying62 (by kernel_rfl) rfl (by decide) (fun _ => rfl) (by intro x; simp [encHS, Value.oneCell']) rfl rfl rfl rfl D189 B186 (by omega) (by omega) (by decide) (fun ao190 gb191 cp192 w193 A194 u195 gegb191 lngb191 => ?_)
     have zu195 := u195.size
     have lt_gb191 := A194.lt
     refine t_assign rfl rfl rfl (t_nil' (hK20 _ _ (c_region (t_move rfl rfl rfl (t_ari rfl rfl rfl rfl rfl (by omega) (t_assign rfl rfl rfl (t_nil' ?_)))))))
     have D197 := (((((A165.keep u172 (fun _ h => h)).keep u177 (fun hb => show ¬ (gb162 = bk23) by first | omega | assumption)).keep u181 (fun hb => show ¬ (gb162 = bk23) by first | omega | assumption)).keep u187 (fun _ h => h)).keep u195 (fun hb => show ¬ ((gb162 = go ∧ bk3 ≤ gb162)) by first | omega | assumption))
     have D198 := ((((haY169.keep u177 (fun hb => show ¬ (gY169 = bk23) by first | omega | assumption)).keep u181 (fun hb => show ¬ (gY169 = bk23) by first | omega | assumption)).keep u187 (fun _ h => h)).keep u195 (fun hb => show ¬ ((gY169 = go ∧ bk3 ≤ gY169)) by first | omega | assumption))
     have uR := (((((((((((Upd.refl (fun i => i = go ∧ bk3 ≤ i) w11).next u26 (fun _ _ h => h.elim)).next u29 (fun i hi (h : i = bk23) => show i = go ∧ bk3 ≤ i by omega)).next u34 (fun _ _ h => h.elim)).next u159 (fun _ _ h => h.elim)).next u166 (fun i hi (h : (i = bk156 ∧ bk156 ≤ i)) => show i = go ∧ bk3 ≤ i by omega)).next u172 (fun _ _ h => h.elim)).next u177 (fun i hi (h : i = bk23) => show i = go ∧ bk3 ≤ i by omega)).next u181 (fun i hi (h : i = bk23) => show i = go ∧ bk3 ≤ i by omega)).next u187 (fun _ _ h => h.elim)).next u195 (fun i hi (h : (i = go ∧ bk3 ≤ i)) => show i = go ∧ bk3 ≤ i by omega))
     have hpA := D197
     have hdA := D198
     exact hK10 (k + 1, ao190, gb191, cp192, (out ++ [(⟨(nth hs k).f, (nth hs k).u, (nth hs k).ps, ao161, gb162, 0, cp163, (nth hs k).ds, aoY169, gY169, 0, cY169⟩ : HS)])) _ _ (by show hs.length - (k + 1) < hs.length - k; omega) ⟨rfl, rfl, rfl, trivial⟩ ⟨((((((((((u12.next u26 (fun _ _ h => h.elim)).next u29 (fun i hi (h : i = bk23) => show bk3 ≤ i by first | omega | assumption)).next u34 (fun _ _ h => h.elim)).next u159 (fun _ _ h => h.elim)).next u166 (fun i hi (h : (i = bk156 ∧ bk156 ≤ i)) => show bk3 ≤ i by first | omega | assumption)).next u172 (fun _ _ h => h.elim)).next u177 (fun i hi (h : i = bk23) => show bk3 ≤ i by first | omega | assumption)).next u181 (fun i hi (h : i = bk23) => show bk3 ≤ i by first | omega | assumption)).next u187 (fun _ _ h => h.elim)).next u195 (fun i hi (h : (i = go ∧ bk3 ≤ i)) => show bk3 ≤ i by first | omega | assumption)), (by omega), A194, (by rw [List.map_append, hom, take_nth (by omega), List.map_append]; rfl), (fun h hh => by
       rcases List.mem_append.1 hh with q | q
       · exact (hoc h q).upd uR (fun _ cs hB => hout0.notBlk hB (by decide)) (fun _ cs hB => hout0.notBlk hB (by decide))
       · rw [List.mem_singleton.1 q]; have hs9 := hsm (nth hs k) (nth_mem (by omega)); exact ⟨⟨_, by omega, hpA⟩, rfl, ⟨_, by omega, hdA⟩, rfl, hs9.hpl, hs9.hdl⟩)⟩
    refine s_do ?_
    have B199 := (B155.kx u159)
    refine t_load Try.isAgg30 rfl rfl rfl (B199.get rfl) (s_next (Upd.refl _ _) (s_do (t_copy (enc := encPpr) (z := .agg #[.int .i64 0, .int .i64 0]) (bytes := 16) (k := 2) (ys := (nth hs k).ps) Try.underlying72 (by kernel_rfl) rfl (by decide) (fun _ => rfl) (by intro x; simp [encPpr, Value.oneCell']) rfl rfl rfl rfl B158 ((hsm (nth hs k) (nth_mem (by omega))).hp.keep E160 (fun _ => fun h => h)) (hsm (nth hs k) (nth_mem (by omega))).hpl (by decide) (fun ao200 gb201 cp202 w203 A204 u205 gegb201 => ?_))))
    have zu205 := u205.size
    have lt_gb201 := A204.lt
    refine s_next ((Upd.refl _ _).next u205 (fun i hi (h : (i = bk156 ∧ bk156 ≤ i)) => show w33.heap.size ≤ i ∨ (i = bk23) by first | omega | exact .inr h)) (y_field Try.underlying74 rfl Try.sizeOf72 (2) rfl rfl rfl rfl (s_do (t_call own11 rfl rfl rfl rfl (duties_c ((nth hs k).ds) ((nth hs k).ad) (nth hs k).bd ((nth hs k).od) ((nth hs k).cd) _ ((hsm (nth hs k) (nth_mem (by omega))).hd.keep (E160.next u205 (fun i hi h => by omega)) (fun _ => fun h => h)) (hsm (nth hs k) (nth_mem (by omega))).hdl (by omega)) (fun v208 w209 r211 => ?_))))
    obtain ⟨⟨aoY207, gY207, cY207, rfl, haY207⟩, u210⟩ := r211
    have zu210 := u210.size
    have lt_gY207 := haY207.lt
    refine s_next ((Upd.refl _ _).nx u210) (s_do ?_)
    have B213 := ((B199.keep u205 (by omega)).kx u210)
    refine t_st (vs := [.slice ao200 (((nth hs k).ps).length) cp202]) Try.sizeOf72 rfl rfl rfl B213 rfl rfl rfl rfl (fun w214 sw214 B216 u215 => ?_)
    have zu215 := u215.size
    have B216 : Blk w214 bk23 74 [.int .i64 ((nth hs k).f), .int .i64 ((nth hs k).u), .slice ao200 (((nth hs k).ps).length) cp202, .slice ((nth hs k).ad) ((nth hs k).ds.length) ((nth hs k).cd)] := B216
    refine s_next ((Upd.refl _ _).next u215 (fun i hi (h : i = bk23) => show w33.heap.size ≤ i ∨ (i = bk23) by first | omega | exact .inr h)) (y_field Try.underlying74 rfl Try.sizeOf30 (3) rfl rfl rfl rfl (s_do (t_st (vs := [.slice aoY207 (((nth hs k).ds).length) cY207]) Try.sizeOf30 rfl rfl rfl B216 rfl rfl rfl rfl (fun w218 sw218 B220 u219 => ?_))))
    have zu219 := u219.size
    have B220 : Blk w218 bk23 74 [.int .i64 ((nth hs k).f), .int .i64 ((nth hs k).u), .slice ao200 (((nth hs k).ps).length) cp202, .slice aoY207 (((nth hs k).ds).length) cY207] := B220
    refine s_next ((Upd.refl _ _).next u219 (fun i hi (h : i = bk23) => show w33.heap.size ≤ i ∨ (i = bk23) by first | omega | exact .inr h)) (s_nil (hK32 _ _ (c_region (t_move rfl rfl rfl (t_loadN (vs := [.int .i64 ((nth hs k).f), .int .i64 ((nth hs k).u), .slice ao200 (((nth hs k).ps).length) cp202, .slice aoY207 (((nth hs k).ds).length) cY207]) Try.isAgg74 Try.sizeOf74 rfl rfl rfl (B220.at.sub 0 4) rfl (t_bslice (ps := [(0, .agg #[.int .i64 ((nth hs k).f), .int .i64 ((nth hs k).u), .slice ao200 (((nth hs k).ps).length) cp202, .slice aoY207 (((nth hs k).ds).length) cY207])]) (cs := [.int .i64 ((nth hs k).f), .int .i64 ((nth hs k).u), .slice ao200 (((nth hs k).ps).length) cp202, .slice aoY207 (((nth hs k).ds).length) cY207]) (e := 74) rfl rfl ⟨rfl, rfl⟩ (fun w => by kernel_rfl) (fun bk222 w223 ebk222 sbk222 B224 u225 => ?_)))))))
    have zu225 := u225.size
    have D227 := (((((((((hout.keep u26 (fun _ h => h)).keep u29 (fun hb => show ¬ (go = bk23) by first | omega | assumption)).keep u34 (fun _ h => h)).keep u159 (fun _ h => h)).keep u205 (fun hb => show ¬ ((go = bk156 ∧ bk156 ≤ go)) by first | omega | assumption)).keep u210 (fun _ h => h)).keep u215 (fun hb => show ¬ (go = bk23) by first | omega | assumption)).keep u219 (fun hb => show ¬ (go = bk23) by first | omega | assumption)).keep u225 (fun _ h => h))
    refine t_append (z := .agg #[.int .i64 0, .int .i64 0, .slice none 0 0, .slice none 0 0]) (bytes := 64) (k := 4) (base := bk3) (⟨(nth hs k).f, (nth hs k).u, (nth hs k).ps, ao200, gb201, 0, cp202, (nth hs k).ds, aoY207, gY207, 0, cY207⟩ : HS) Try.underlying62 (by kernel_rfl) rfl (by decide) (fun _ => rfl) (by intro x; simp [encHS, Value.oneCell']) rfl rfl rfl rfl D227 B224 (by omega) (by omega) (by decide) (fun ao228 gb229 cp230 w231 A232 u233 gegb229 lngb229 => ?_)
    have zu233 := u233.size
    have lt_gb229 := A232.lt
    refine t_assign rfl rfl rfl (t_nil' (hK20 _ _ (c_region (t_move rfl rfl rfl (t_ari rfl rfl rfl rfl rfl (by omega) (t_assign rfl rfl rfl (t_nil' ?_)))))))
    have D235 := (((((A204.keep u210 (fun _ h => h)).keep u215 (fun hb => show ¬ (gb201 = bk23) by first | omega | assumption)).keep u219 (fun hb => show ¬ (gb201 = bk23) by first | omega | assumption)).keep u225 (fun _ h => h)).keep u233 (fun hb => show ¬ ((gb201 = go ∧ bk3 ≤ gb201)) by first | omega | assumption))
    have D236 := ((((haY207.keep u215 (fun hb => show ¬ (gY207 = bk23) by first | omega | assumption)).keep u219 (fun hb => show ¬ (gY207 = bk23) by first | omega | assumption)).keep u225 (fun _ h => h)).keep u233 (fun hb => show ¬ ((gY207 = go ∧ bk3 ≤ gY207)) by first | omega | assumption))
    have uR := (((((((((((Upd.refl (fun i => i = go ∧ bk3 ≤ i) w11).next u26 (fun _ _ h => h.elim)).next u29 (fun i hi (h : i = bk23) => show i = go ∧ bk3 ≤ i by omega)).next u34 (fun _ _ h => h.elim)).next u159 (fun _ _ h => h.elim)).next u205 (fun i hi (h : (i = bk156 ∧ bk156 ≤ i)) => show i = go ∧ bk3 ≤ i by omega)).next u210 (fun _ _ h => h.elim)).next u215 (fun i hi (h : i = bk23) => show i = go ∧ bk3 ≤ i by omega)).next u219 (fun i hi (h : i = bk23) => show i = go ∧ bk3 ≤ i by omega)).next u225 (fun _ _ h => h.elim)).next u233 (fun i hi (h : (i = go ∧ bk3 ≤ i)) => show i = go ∧ bk3 ≤ i by omega))
    have hpA := D235
    have hdA := D236
    exact hK10 (k + 1, ao228, gb229, cp230, (out ++ [(⟨(nth hs k).f, (nth hs k).u, (nth hs k).ps, ao200, gb201, 0, cp202, (nth hs k).ds, aoY207, gY207, 0, cY207⟩ : HS)])) _ _ (by show hs.length - (k + 1) < hs.length - k; omega) ⟨rfl, rfl, rfl, trivial⟩ ⟨((((((((((u12.next u26 (fun _ _ h => h.elim)).next u29 (fun i hi (h : i = bk23) => show bk3 ≤ i by first | omega | assumption)).next u34 (fun _ _ h => h.elim)).next u159 (fun _ _ h => h.elim)).next u205 (fun i hi (h : (i = bk156 ∧ bk156 ≤ i)) => show bk3 ≤ i by first | omega | assumption)).next u210 (fun _ _ h => h.elim)).next u215 (fun i hi (h : i = bk23) => show bk3 ≤ i by first | omega | assumption)).next u219 (fun i hi (h : i = bk23) => show bk3 ≤ i by first | omega | assumption)).next u225 (fun _ _ h => h.elim)).next u233 (fun i hi (h : (i = go ∧ bk3 ≤ i)) => show bk3 ≤ i by first | omega | assumption)), (by omega), A232, (by rw [List.map_append, hom, take_nth (by omega), List.map_append]; rfl), (fun h hh => by
      rcases List.mem_append.1 hh with q | q
      · exact (hoc h q).upd uR (fun _ cs hB => hout0.notBlk hB (by decide)) (fun _ cs hB => hout0.notBlk hB (by decide))
      · rw [List.mem_singleton.1 q]; have hs9 := hsm (nth hs k) (nth_mem (by omega)); exact ⟨⟨_, by omega, hpA⟩, rfl, ⟨_, by omega, hdA⟩, rfl, hs9.hpl, hs9.hdl⟩)⟩
   refine s_do (t_load Try.isAgg30 rfl rfl rfl (B155.get rfl) (s_next (Upd.refl _ _) (s_do (t_bslice (ps := []) (cs := []) (e := 107) rfl rfl ⟨rfl, rfl⟩ (fun w => by kernel_rfl) (fun bk237 w238 ebk237 sbk237 B239 u240 => ?_)))))
   have zu240 := u240.size
   have E241 := E35.nx u240
   refine s_next ((Upd.refl _ _).nx u240) (s_do (t_copy (enc := encPpr) (z := .agg #[.int .i64 0, .int .i64 0]) (bytes := 16) (k := 2) (ys := (nth hs k).ps) Try.underlying72 (by kernel_rfl) rfl (by decide) (fun _ => rfl) (by intro x; simp [encPpr, Value.oneCell']) rfl rfl rfl rfl B239 ((hsm (nth hs k) (nth_mem (by omega))).hp.keep E241 (fun _ => fun h => h)) (hsm (nth hs k) (nth_mem (by omega))).hpl (by decide) (fun ao242 gb243 cp244 w245 A246 u247 gegb243 => ?_)))
   have zu247 := u247.size
   have lt_gb243 := A246.lt
   refine s_next ((Upd.refl _ _).next u247 (fun i hi (h : (i = bk237 ∧ bk237 ≤ i)) => show w33.heap.size ≤ i ∨ (i = bk23) by first | omega | exact .inr h)) (y_field Try.underlying74 rfl Try.sizeOf72 (2) rfl rfl rfl rfl (s_do (t_call own11 rfl rfl rfl rfl (duties_c ((nth hs k).ds) ((nth hs k).ad) (nth hs k).bd ((nth hs k).od) ((nth hs k).cd) _ ((hsm (nth hs k) (nth_mem (by omega))).hd.keep (E241.next u247 (fun i hi h => by omega)) (fun _ => fun h => h)) (hsm (nth hs k) (nth_mem (by omega))).hdl (by omega)) (fun v250 w251 r253 => ?_))))
   obtain ⟨⟨aoY249, gY249, cY249, rfl, haY249⟩, u252⟩ := r253
   have zu252 := u252.size
   have lt_gY249 := haY249.lt
   refine s_next ((Upd.refl _ _).nx u252) (s_do ?_)
   have B255 := (((B155.kx u240).keep u247 (by omega)).kx u252)
   refine t_st (vs := [.slice ao242 (((nth hs k).ps).length) cp244]) Try.sizeOf72 rfl rfl rfl B255 rfl rfl rfl rfl (fun w256 sw256 B258 u257 => ?_)
   have zu257 := u257.size
   have B258 : Blk w256 bk23 74 [.int .i64 ((nth hs k).f), .int .i64 ((nth hs k).u), .slice ao242 (((nth hs k).ps).length) cp244, .slice ((nth hs k).ad) ((nth hs k).ds.length) ((nth hs k).cd)] := B258
   refine s_next ((Upd.refl _ _).next u257 (fun i hi (h : i = bk23) => show w33.heap.size ≤ i ∨ (i = bk23) by first | omega | exact .inr h)) (y_field Try.underlying74 rfl Try.sizeOf30 (3) rfl rfl rfl rfl (s_do (t_st (vs := [.slice aoY249 (((nth hs k).ds).length) cY249]) Try.sizeOf30 rfl rfl rfl B258 rfl rfl rfl rfl (fun w260 sw260 B262 u261 => ?_))))
   have zu261 := u261.size
   have B262 : Blk w260 bk23 74 [.int .i64 ((nth hs k).f), .int .i64 ((nth hs k).u), .slice ao242 (((nth hs k).ps).length) cp244, .slice aoY249 (((nth hs k).ds).length) cY249] := B262
   refine s_next ((Upd.refl _ _).next u261 (fun i hi (h : i = bk23) => show w33.heap.size ≤ i ∨ (i = bk23) by first | omega | exact .inr h)) (s_nil (hK32 _ _ (c_region (t_move rfl rfl rfl (t_loadN (vs := [.int .i64 ((nth hs k).f), .int .i64 ((nth hs k).u), .slice ao242 (((nth hs k).ps).length) cp244, .slice aoY249 (((nth hs k).ds).length) cY249]) Try.isAgg74 Try.sizeOf74 rfl rfl rfl (B262.at.sub 0 4) rfl (t_bslice (ps := [(0, .agg #[.int .i64 ((nth hs k).f), .int .i64 ((nth hs k).u), .slice ao242 (((nth hs k).ps).length) cp244, .slice aoY249 (((nth hs k).ds).length) cY249])]) (cs := [.int .i64 ((nth hs k).f), .int .i64 ((nth hs k).u), .slice ao242 (((nth hs k).ps).length) cp244, .slice aoY249 (((nth hs k).ds).length) cY249]) (e := 74) rfl rfl ⟨rfl, rfl⟩ (fun w => by kernel_rfl) (fun bk264 w265 ebk264 sbk264 B266 u267 => ?_)))))))
   have zu267 := u267.size
   have D269 := (((((((((hout.keep u26 (fun _ h => h)).keep u29 (fun hb => show ¬ (go = bk23) by first | omega | assumption)).keep u34 (fun _ h => h)).keep u240 (fun _ h => h)).keep u247 (fun hb => show ¬ ((go = bk237 ∧ bk237 ≤ go)) by first | omega | assumption)).keep u252 (fun _ h => h)).keep u257 (fun hb => show ¬ (go = bk23) by first | omega | assumption)).keep u261 (fun hb => show ¬ (go = bk23) by first | omega | assumption)).keep u267 (fun _ h => h))
   refine t_append (z := .agg #[.int .i64 0, .int .i64 0, .slice none 0 0, .slice none 0 0]) (bytes := 64) (k := 4) (base := bk3) (⟨(nth hs k).f, (nth hs k).u, (nth hs k).ps, ao242, gb243, 0, cp244, (nth hs k).ds, aoY249, gY249, 0, cY249⟩ : HS) Try.underlying62 (by kernel_rfl) rfl (by decide) (fun _ => rfl) (by intro x; simp [encHS, Value.oneCell']) rfl rfl rfl rfl D269 B266 (by omega) (by omega) (by decide) (fun ao270 gb271 cp272 w273 A274 u275 gegb271 lngb271 => ?_)
   have zu275 := u275.size
   have lt_gb271 := A274.lt
   refine t_assign rfl rfl rfl (t_nil' (hK20 _ _ (c_region (t_move rfl rfl rfl (t_ari rfl rfl rfl rfl rfl (by omega) (t_assign rfl rfl rfl (t_nil' ?_)))))))
   have D277 := (((((A246.keep u252 (fun _ h => h)).keep u257 (fun hb => show ¬ (gb243 = bk23) by first | omega | assumption)).keep u261 (fun hb => show ¬ (gb243 = bk23) by first | omega | assumption)).keep u267 (fun _ h => h)).keep u275 (fun hb => show ¬ ((gb243 = go ∧ bk3 ≤ gb243)) by first | omega | assumption))
   have D278 := ((((haY249.keep u257 (fun hb => show ¬ (gY249 = bk23) by first | omega | assumption)).keep u261 (fun hb => show ¬ (gY249 = bk23) by first | omega | assumption)).keep u267 (fun _ h => h)).keep u275 (fun hb => show ¬ ((gY249 = go ∧ bk3 ≤ gY249)) by first | omega | assumption))
   have uR := (((((((((((Upd.refl (fun i => i = go ∧ bk3 ≤ i) w11).next u26 (fun _ _ h => h.elim)).next u29 (fun i hi (h : i = bk23) => show i = go ∧ bk3 ≤ i by omega)).next u34 (fun _ _ h => h.elim)).next u240 (fun _ _ h => h.elim)).next u247 (fun i hi (h : (i = bk237 ∧ bk237 ≤ i)) => show i = go ∧ bk3 ≤ i by omega)).next u252 (fun _ _ h => h.elim)).next u257 (fun i hi (h : i = bk23) => show i = go ∧ bk3 ≤ i by omega)).next u261 (fun i hi (h : i = bk23) => show i = go ∧ bk3 ≤ i by omega)).next u267 (fun _ _ h => h.elim)).next u275 (fun i hi (h : (i = go ∧ bk3 ≤ i)) => show i = go ∧ bk3 ≤ i by omega))
   have hpA := D277
   have hdA := D278
   exact hK10 (k + 1, ao270, gb271, cp272, (out ++ [(⟨(nth hs k).f, (nth hs k).u, (nth hs k).ps, ao242, gb243, 0, cp244, (nth hs k).ds, aoY249, gY249, 0, cY249⟩ : HS)])) _ _ (by show hs.length - (k + 1) < hs.length - k; omega) ⟨rfl, rfl, rfl, trivial⟩ ⟨((((((((((u12.next u26 (fun _ _ h => h.elim)).next u29 (fun i hi (h : i = bk23) => show bk3 ≤ i by first | omega | assumption)).next u34 (fun _ _ h => h.elim)).next u240 (fun _ _ h => h.elim)).next u247 (fun i hi (h : (i = bk237 ∧ bk237 ≤ i)) => show bk3 ≤ i by first | omega | assumption)).next u252 (fun _ _ h => h.elim)).next u257 (fun i hi (h : i = bk23) => show bk3 ≤ i by first | omega | assumption)).next u261 (fun i hi (h : i = bk23) => show bk3 ≤ i by first | omega | assumption)).next u267 (fun _ _ h => h.elim)).next u275 (fun i hi (h : (i = go ∧ bk3 ≤ i)) => show bk3 ≤ i by first | omega | assumption)), (by omega), A274, (by rw [List.map_append, hom, take_nth (by omega), List.map_append]; rfl), (fun h hh => by
     rcases List.mem_append.1 hh with q | q
     · exact (hoc h q).upd uR (fun _ cs hB => hout0.notBlk hB (by decide)) (fun _ cs hB => hout0.notBlk hB (by decide))
     · rw [List.mem_singleton.1 q]; have hs9 := hsm (nth hs k) (nth_mem (by omega)); exact ⟨⟨_, by omega, hpA⟩, rfl, ⟨_, by omega, hdA⟩, rfl, hs9.hpl, hs9.hdl⟩)⟩
  refine s_do ?_
  have B279 := (B30.kx u34)
  refine t_load Try.isAgg30 rfl rfl rfl (B279.get rfl) (s_next (Upd.refl _ _) (s_or ?_ ?_))
  ·
   refine s_do (t_bslice (ps := []) (cs := []) (e := 107) rfl rfl ⟨rfl, rfl⟩ (fun w => by kernel_rfl) (fun bk280 w281 ebk280 sbk280 B282 u283 => ?_))
   have zu283 := u283.size
   have E284 := E35.nx u283
   refine s_next ((Upd.refl _ _).nx u283) (s_do ?_)
   have B285 := (B279.kx u283)
   refine t_load Try.isAgg72 rfl rfl rfl (B285.get rfl) (s_next (Upd.refl _ _) (s_do (t_copy (enc := encPpr) (z := .agg #[.int .i64 0, .int .i64 0]) (bytes := 16) (k := 2) (ys := (nth hs k).ps) Try.underlying72 (by kernel_rfl) rfl (by decide) (fun _ => rfl) (by intro x; simp [encPpr, Value.oneCell']) rfl rfl rfl rfl B282 ((hsm (nth hs k) (nth_mem (by omega))).hp.keep E284 (fun _ => fun h => h)) (hsm (nth hs k) (nth_mem (by omega))).hpl (by decide) (fun ao286 gb287 cp288 w289 A290 u291 gegb287 => ?_))))
   have zu291 := u291.size
   have lt_gb287 := A290.lt
   refine s_next ((Upd.refl _ _).next u291 (fun i hi (h : (i = bk280 ∧ bk280 ≤ i)) => show w33.heap.size ≤ i ∨ (i = bk23) by first | omega | exact .inr h)) (y_field Try.underlying74 rfl Try.sizeOf72 (2) rfl rfl rfl rfl (s_do (t_call own11 rfl rfl rfl rfl (duties_c ((nth hs k).ds) ((nth hs k).ad) (nth hs k).bd ((nth hs k).od) ((nth hs k).cd) _ ((hsm (nth hs k) (nth_mem (by omega))).hd.keep (E284.next u291 (fun i hi h => by omega)) (fun _ => fun h => h)) (hsm (nth hs k) (nth_mem (by omega))).hdl (by omega)) (fun v294 w295 r297 => ?_))))
   obtain ⟨⟨aoY293, gY293, cY293, rfl, haY293⟩, u296⟩ := r297
   have zu296 := u296.size
   have lt_gY293 := haY293.lt
   refine s_next ((Upd.refl _ _).nx u296) (s_do ?_)
   have B299 := ((B285.keep u291 (by omega)).kx u296)
   refine t_st (vs := [.slice ao286 (((nth hs k).ps).length) cp288]) Try.sizeOf72 rfl rfl rfl B299 rfl rfl rfl rfl (fun w300 sw300 B302 u301 => ?_)
   have zu301 := u301.size
   have B302 : Blk w300 bk23 74 [.int .i64 ((nth hs k).f), .int .i64 ((nth hs k).u), .slice ao286 (((nth hs k).ps).length) cp288, .slice ((nth hs k).ad) ((nth hs k).ds.length) ((nth hs k).cd)] := B302
   refine s_next ((Upd.refl _ _).next u301 (fun i hi (h : i = bk23) => show w33.heap.size ≤ i ∨ (i = bk23) by first | omega | exact .inr h)) (y_field Try.underlying74 rfl Try.sizeOf30 (3) rfl rfl rfl rfl (s_do (t_st (vs := [.slice aoY293 (((nth hs k).ds).length) cY293]) Try.sizeOf30 rfl rfl rfl B302 rfl rfl rfl rfl (fun w304 sw304 B306 u305 => ?_))))
   have zu305 := u305.size
   have B306 : Blk w304 bk23 74 [.int .i64 ((nth hs k).f), .int .i64 ((nth hs k).u), .slice ao286 (((nth hs k).ps).length) cp288, .slice aoY293 (((nth hs k).ds).length) cY293] := B306
   refine s_next ((Upd.refl _ _).next u305 (fun i hi (h : i = bk23) => show w33.heap.size ≤ i ∨ (i = bk23) by first | omega | exact .inr h)) (s_nil (hK32 _ _ (c_region (t_move rfl rfl rfl (t_loadN (vs := [.int .i64 ((nth hs k).f), .int .i64 ((nth hs k).u), .slice ao286 (((nth hs k).ps).length) cp288, .slice aoY293 (((nth hs k).ds).length) cY293]) Try.isAgg74 Try.sizeOf74 rfl rfl rfl (B306.at.sub 0 4) rfl (t_bslice (ps := [(0, .agg #[.int .i64 ((nth hs k).f), .int .i64 ((nth hs k).u), .slice ao286 (((nth hs k).ps).length) cp288, .slice aoY293 (((nth hs k).ds).length) cY293])]) (cs := [.int .i64 ((nth hs k).f), .int .i64 ((nth hs k).u), .slice ao286 (((nth hs k).ps).length) cp288, .slice aoY293 (((nth hs k).ds).length) cY293]) (e := 74) rfl rfl ⟨rfl, rfl⟩ (fun w => by kernel_rfl) (fun bk308 w309 ebk308 sbk308 B310 u311 => ?_)))))))
   have zu311 := u311.size
   have D313 := (((((((((hout.keep u26 (fun _ h => h)).keep u29 (fun hb => show ¬ (go = bk23) by first | omega | assumption)).keep u34 (fun _ h => h)).keep u283 (fun _ h => h)).keep u291 (fun hb => show ¬ ((go = bk280 ∧ bk280 ≤ go)) by first | omega | assumption)).keep u296 (fun _ h => h)).keep u301 (fun hb => show ¬ (go = bk23) by first | omega | assumption)).keep u305 (fun hb => show ¬ (go = bk23) by first | omega | assumption)).keep u311 (fun _ h => h))
   refine t_append (z := .agg #[.int .i64 0, .int .i64 0, .slice none 0 0, .slice none 0 0]) (bytes := 64) (k := 4) (base := bk3) (⟨(nth hs k).f, (nth hs k).u, (nth hs k).ps, ao286, gb287, 0, cp288, (nth hs k).ds, aoY293, gY293, 0, cY293⟩ : HS) Try.underlying62 (by kernel_rfl) rfl (by decide) (fun _ => rfl) (by intro x; simp [encHS, Value.oneCell']) rfl rfl rfl rfl D313 B310 (by omega) (by omega) (by decide) (fun ao314 gb315 cp316 w317 A318 u319 gegb315 lngb315 => ?_)
   have zu319 := u319.size
   have lt_gb315 := A318.lt
   refine t_assign rfl rfl rfl (t_nil' (hK20 _ _ (c_region (t_move rfl rfl rfl (t_ari rfl rfl rfl rfl rfl (by omega) (t_assign rfl rfl rfl (t_nil' ?_)))))))
   have D321 := (((((A290.keep u296 (fun _ h => h)).keep u301 (fun hb => show ¬ (gb287 = bk23) by first | omega | assumption)).keep u305 (fun hb => show ¬ (gb287 = bk23) by first | omega | assumption)).keep u311 (fun _ h => h)).keep u319 (fun hb => show ¬ ((gb287 = go ∧ bk3 ≤ gb287)) by first | omega | assumption))
   have D322 := ((((haY293.keep u301 (fun hb => show ¬ (gY293 = bk23) by first | omega | assumption)).keep u305 (fun hb => show ¬ (gY293 = bk23) by first | omega | assumption)).keep u311 (fun _ h => h)).keep u319 (fun hb => show ¬ ((gY293 = go ∧ bk3 ≤ gY293)) by first | omega | assumption))
   have uR := (((((((((((Upd.refl (fun i => i = go ∧ bk3 ≤ i) w11).next u26 (fun _ _ h => h.elim)).next u29 (fun i hi (h : i = bk23) => show i = go ∧ bk3 ≤ i by omega)).next u34 (fun _ _ h => h.elim)).next u283 (fun _ _ h => h.elim)).next u291 (fun i hi (h : (i = bk280 ∧ bk280 ≤ i)) => show i = go ∧ bk3 ≤ i by omega)).next u296 (fun _ _ h => h.elim)).next u301 (fun i hi (h : i = bk23) => show i = go ∧ bk3 ≤ i by omega)).next u305 (fun i hi (h : i = bk23) => show i = go ∧ bk3 ≤ i by omega)).next u311 (fun _ _ h => h.elim)).next u319 (fun i hi (h : (i = go ∧ bk3 ≤ i)) => show i = go ∧ bk3 ≤ i by omega))
   have hpA := D321
   have hdA := D322
   exact hK10 (k + 1, ao314, gb315, cp316, (out ++ [(⟨(nth hs k).f, (nth hs k).u, (nth hs k).ps, ao286, gb287, 0, cp288, (nth hs k).ds, aoY293, gY293, 0, cY293⟩ : HS)])) _ _ (by show hs.length - (k + 1) < hs.length - k; omega) ⟨rfl, rfl, rfl, trivial⟩ ⟨((((((((((u12.next u26 (fun _ _ h => h.elim)).next u29 (fun i hi (h : i = bk23) => show bk3 ≤ i by first | omega | assumption)).next u34 (fun _ _ h => h.elim)).next u283 (fun _ _ h => h.elim)).next u291 (fun i hi (h : (i = bk280 ∧ bk280 ≤ i)) => show bk3 ≤ i by first | omega | assumption)).next u296 (fun _ _ h => h.elim)).next u301 (fun i hi (h : i = bk23) => show bk3 ≤ i by first | omega | assumption)).next u305 (fun i hi (h : i = bk23) => show bk3 ≤ i by first | omega | assumption)).next u311 (fun _ _ h => h.elim)).next u319 (fun i hi (h : (i = go ∧ bk3 ≤ i)) => show bk3 ≤ i by first | omega | assumption)), (by omega), A318, (by rw [List.map_append, hom, take_nth (by omega), List.map_append]; rfl), (fun h hh => by
     rcases List.mem_append.1 hh with q | q
     · exact (hoc h q).upd uR (fun _ cs hB => hout0.notBlk hB (by decide)) (fun _ cs hB => hout0.notBlk hB (by decide))
     · rw [List.mem_singleton.1 q]; have hs9 := hsm (nth hs k) (nth_mem (by omega)); exact ⟨⟨_, by omega, hpA⟩, rfl, ⟨_, by omega, hdA⟩, rfl, hs9.hpl, hs9.hdl⟩)⟩
  refine s_do (t_load Try.isAgg72 rfl rfl rfl (B279.get rfl) (s_next (Upd.refl _ _) (s_do (t_bslice (ps := []) (cs := []) (e := 107) rfl rfl ⟨rfl, rfl⟩ (fun w => by kernel_rfl) (fun bk323 w324 ebk323 sbk323 B325 u326 => ?_)))))
  have zu326 := u326.size
  have E327 := E35.nx u326
  refine s_next ((Upd.refl _ _).nx u326) (s_do (t_copy (enc := encPpr) (z := .agg #[.int .i64 0, .int .i64 0]) (bytes := 16) (k := 2) (ys := (nth hs k).ps) Try.underlying72 (by kernel_rfl) rfl (by decide) (fun _ => rfl) (by intro x; simp [encPpr, Value.oneCell']) rfl rfl rfl rfl B325 ((hsm (nth hs k) (nth_mem (by omega))).hp.keep E327 (fun _ => fun h => h)) (hsm (nth hs k) (nth_mem (by omega))).hpl (by decide) (fun ao328 gb329 cp330 w331 A332 u333 gegb329 => ?_)))
  have zu333 := u333.size
  have lt_gb329 := A332.lt
  refine s_next ((Upd.refl _ _).next u333 (fun i hi (h : (i = bk323 ∧ bk323 ≤ i)) => show w33.heap.size ≤ i ∨ (i = bk23) by first | omega | exact .inr h)) (y_field Try.underlying74 rfl Try.sizeOf72 (2) rfl rfl rfl rfl (s_do (t_call own11 rfl rfl rfl rfl (duties_c ((nth hs k).ds) ((nth hs k).ad) (nth hs k).bd ((nth hs k).od) ((nth hs k).cd) _ ((hsm (nth hs k) (nth_mem (by omega))).hd.keep (E327.next u333 (fun i hi h => by omega)) (fun _ => fun h => h)) (hsm (nth hs k) (nth_mem (by omega))).hdl (by omega)) (fun v336 w337 r339 => ?_))))
  obtain ⟨⟨aoY335, gY335, cY335, rfl, haY335⟩, u338⟩ := r339
  have zu338 := u338.size
  have lt_gY335 := haY335.lt
  refine s_next ((Upd.refl _ _).nx u338) (s_do ?_)
  have B341 := (((B279.kx u326).keep u333 (by omega)).kx u338)
  refine t_st (vs := [.slice ao328 (((nth hs k).ps).length) cp330]) Try.sizeOf72 rfl rfl rfl B341 rfl rfl rfl rfl (fun w342 sw342 B344 u343 => ?_)
  have zu343 := u343.size
  have B344 : Blk w342 bk23 74 [.int .i64 ((nth hs k).f), .int .i64 ((nth hs k).u), .slice ao328 (((nth hs k).ps).length) cp330, .slice ((nth hs k).ad) ((nth hs k).ds.length) ((nth hs k).cd)] := B344
  refine s_next ((Upd.refl _ _).next u343 (fun i hi (h : i = bk23) => show w33.heap.size ≤ i ∨ (i = bk23) by first | omega | exact .inr h)) (y_field Try.underlying74 rfl Try.sizeOf30 (3) rfl rfl rfl rfl (s_do (t_st (vs := [.slice aoY335 (((nth hs k).ds).length) cY335]) Try.sizeOf30 rfl rfl rfl B344 rfl rfl rfl rfl (fun w346 sw346 B348 u347 => ?_))))
  have zu347 := u347.size
  have B348 : Blk w346 bk23 74 [.int .i64 ((nth hs k).f), .int .i64 ((nth hs k).u), .slice ao328 (((nth hs k).ps).length) cp330, .slice aoY335 (((nth hs k).ds).length) cY335] := B348
  refine s_next ((Upd.refl _ _).next u347 (fun i hi (h : i = bk23) => show w33.heap.size ≤ i ∨ (i = bk23) by first | omega | exact .inr h)) (s_nil (hK32 _ _ (c_region (t_move rfl rfl rfl (t_loadN (vs := [.int .i64 ((nth hs k).f), .int .i64 ((nth hs k).u), .slice ao328 (((nth hs k).ps).length) cp330, .slice aoY335 (((nth hs k).ds).length) cY335]) Try.isAgg74 Try.sizeOf74 rfl rfl rfl (B348.at.sub 0 4) rfl (t_bslice (ps := [(0, .agg #[.int .i64 ((nth hs k).f), .int .i64 ((nth hs k).u), .slice ao328 (((nth hs k).ps).length) cp330, .slice aoY335 (((nth hs k).ds).length) cY335])]) (cs := [.int .i64 ((nth hs k).f), .int .i64 ((nth hs k).u), .slice ao328 (((nth hs k).ps).length) cp330, .slice aoY335 (((nth hs k).ds).length) cY335]) (e := 74) rfl rfl ⟨rfl, rfl⟩ (fun w => by kernel_rfl) (fun bk350 w351 ebk350 sbk350 B352 u353 => ?_)))))))
  have zu353 := u353.size
  have D355 := (((((((((hout.keep u26 (fun _ h => h)).keep u29 (fun hb => show ¬ (go = bk23) by first | omega | assumption)).keep u34 (fun _ h => h)).keep u326 (fun _ h => h)).keep u333 (fun hb => show ¬ ((go = bk323 ∧ bk323 ≤ go)) by first | omega | assumption)).keep u338 (fun _ h => h)).keep u343 (fun hb => show ¬ (go = bk23) by first | omega | assumption)).keep u347 (fun hb => show ¬ (go = bk23) by first | omega | assumption)).keep u353 (fun _ h => h))
  refine t_append (z := .agg #[.int .i64 0, .int .i64 0, .slice none 0 0, .slice none 0 0]) (bytes := 64) (k := 4) (base := bk3) (⟨(nth hs k).f, (nth hs k).u, (nth hs k).ps, ao328, gb329, 0, cp330, (nth hs k).ds, aoY335, gY335, 0, cY335⟩ : HS) Try.underlying62 (by kernel_rfl) rfl (by decide) (fun _ => rfl) (by intro x; simp [encHS, Value.oneCell']) rfl rfl rfl rfl D355 B352 (by omega) (by omega) (by decide) (fun ao356 gb357 cp358 w359 A360 u361 gegb357 lngb357 => ?_)
  have zu361 := u361.size
  have lt_gb357 := A360.lt
  refine t_assign rfl rfl rfl (t_nil' (hK20 _ _ (c_region (t_move rfl rfl rfl (t_ari rfl rfl rfl rfl rfl (by omega) (t_assign rfl rfl rfl (t_nil' ?_)))))))
  have D363 := (((((A332.keep u338 (fun _ h => h)).keep u343 (fun hb => show ¬ (gb329 = bk23) by first | omega | assumption)).keep u347 (fun hb => show ¬ (gb329 = bk23) by first | omega | assumption)).keep u353 (fun _ h => h)).keep u361 (fun hb => show ¬ ((gb329 = go ∧ bk3 ≤ gb329)) by first | omega | assumption))
  have D364 := ((((haY335.keep u343 (fun hb => show ¬ (gY335 = bk23) by first | omega | assumption)).keep u347 (fun hb => show ¬ (gY335 = bk23) by first | omega | assumption)).keep u353 (fun _ h => h)).keep u361 (fun hb => show ¬ ((gY335 = go ∧ bk3 ≤ gY335)) by first | omega | assumption))
  have uR := (((((((((((Upd.refl (fun i => i = go ∧ bk3 ≤ i) w11).next u26 (fun _ _ h => h.elim)).next u29 (fun i hi (h : i = bk23) => show i = go ∧ bk3 ≤ i by omega)).next u34 (fun _ _ h => h.elim)).next u326 (fun _ _ h => h.elim)).next u333 (fun i hi (h : (i = bk323 ∧ bk323 ≤ i)) => show i = go ∧ bk3 ≤ i by omega)).next u338 (fun _ _ h => h.elim)).next u343 (fun i hi (h : i = bk23) => show i = go ∧ bk3 ≤ i by omega)).next u347 (fun i hi (h : i = bk23) => show i = go ∧ bk3 ≤ i by omega)).next u353 (fun _ _ h => h.elim)).next u361 (fun i hi (h : (i = go ∧ bk3 ≤ i)) => show i = go ∧ bk3 ≤ i by omega))
  have hpA := D363
  have hdA := D364
  exact hK10 (k + 1, ao356, gb357, cp358, (out ++ [(⟨(nth hs k).f, (nth hs k).u, (nth hs k).ps, ao328, gb329, 0, cp330, (nth hs k).ds, aoY335, gY335, 0, cY335⟩ : HS)])) _ _ (by show hs.length - (k + 1) < hs.length - k; omega) ⟨rfl, rfl, rfl, trivial⟩ ⟨((((((((((u12.next u26 (fun _ _ h => h.elim)).next u29 (fun i hi (h : i = bk23) => show bk3 ≤ i by first | omega | assumption)).next u34 (fun _ _ h => h.elim)).next u326 (fun _ _ h => h.elim)).next u333 (fun i hi (h : (i = bk323 ∧ bk323 ≤ i)) => show bk3 ≤ i by first | omega | assumption)).next u338 (fun _ _ h => h.elim)).next u343 (fun i hi (h : i = bk23) => show bk3 ≤ i by first | omega | assumption)).next u347 (fun i hi (h : i = bk23) => show bk3 ≤ i by first | omega | assumption)).next u353 (fun _ _ h => h.elim)).next u361 (fun i hi (h : (i = go ∧ bk3 ≤ i)) => show bk3 ≤ i by first | omega | assumption)), (by omega), A360, (by rw [List.map_append, hom, take_nth (by omega), List.map_append]; rfl), (fun h hh => by
    rcases List.mem_append.1 hh with q | q
    · exact (hoc h q).upd uR (fun _ cs hB => hout0.notBlk hB (by decide)) (fun _ cs hB => hout0.notBlk hB (by decide))
    · rw [List.mem_singleton.1 q]; have hs9 := hsm (nth hs k) (nth_mem (by omega)); exact ⟨⟨_, by omega, hpA⟩, rfl, ⟨_, by omega, hdA⟩, rfl, hs9.hpl, hs9.hdl⟩)⟩
 refine c_exit (hK8 _ _ (c_seq fun K365 hK365 => (c_region (t_move rfl rfl rfl (t_assign rfl rfl rfl (t_nil' (hK365 _ _ (c_ret (f_ret1 (v := .slice ao out.length co) Try.results19 rfl ?_)))))))))
 have hme : out.map HS.slr = hs.map HS.slr := by rw [hom, List.take_of_length_le (by omega)]
 obtain ⟨g9, ha9⟩ := Acc.lower (base' := w0.heap.size) hout (by omega) hpos
 exact ⟨⟨ao, g9, co, out, rfl, ha9, hme, fun h hh => ((hoc h hh).ext (Upd.refl _ _)).low (by omega)⟩, E17⟩

theorem legs_c (xs : List Leg) (ax : Option Addr) (bx ox cx : Nat) (w0 : World) (hxs : Sl encLeg 7 w0 ax bx ox xs) (hxl : xs.length ≤ 1000000) (hpos : 0 < w0.heap.size) :
    CallsV Try.prog 20 [.slice ax xs.length cx] w0 (fun v w' => (∃ ao g cp, v = .slice ao (List.length xs) cp ∧ Acc encLeg 7 77 w0.heap.size w' ao g cp xs) ∧ Ext w0 w') := by
 refine f_enter (N := 6) Try.func20 rfl rfl rfl (c_seq fun K1 hK1 => (c_region (t_assign rfl rfl rfl (t_nil' (hK1 _ _ (c_seq fun K2 hK2 => (c_region (t_bslice (ps := []) (cs := []) (e := 77) rfl rfl ⟨rfl, rfl⟩ (fun w => by kernel_rfl) (fun bk3 w4 ebk3 sbk3 B5 u6 => ?_)))))))))
 have zu6 := u6.size
 have E7 := (Upd.refl (fun _ => False) w0).nx u6
 refine t_move rfl rfl rfl (t_copy (enc := encLeg) (z := .agg #[.int .i64 0, .int .i64 0, .int .i64 0, .int .i64 0, .int .i64 0, .int .i64 0, .int .i64 0]) (bytes := 56) (k := 7) (ys := xs) Try.underlying63 (by kernel_rfl) rfl (by decide) (fun _ => rfl) (by intro x; simp [encLeg, Value.oneCell']) rfl rfl rfl rfl B5 (hxs.keep E7 (fun _ h => h)) (by omega) (by decide) (fun ao8 gb9 cp10 w11 A12 u13 gegb9 => ?_))
 have zu13 := u13.size
 have lt_gb9 := A12.lt
 refine t_assign rfl rfl rfl (t_nil' (hK2 _ _ (c_ret (f_ret1 (v := .slice ao8 xs.length cp10) Try.results20 rfl ?_))))
 obtain ⟨g9, ha9⟩ := Acc.lower (base' := w0.heap.size) A12 (by omega) hpos
 exact ⟨⟨ao8, g9, cp10, rfl, ha9⟩, (E7.next u13 (fun i hi h => by omega))⟩

end Go.Proofs.Ytagmodjadmecdaa
