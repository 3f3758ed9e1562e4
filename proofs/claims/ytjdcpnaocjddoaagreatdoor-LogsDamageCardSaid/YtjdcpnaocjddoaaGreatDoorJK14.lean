/-
  Part 14 of the proof: contracts and plain laws. Conditions: none.
-/
import Derived.Test.YtjdcpnaocjddoaaGreatDoorJK13
namespace Go.Proofs.YtjdcpnaocjddoaaGreatDoor
open Go Go.RowKit

/-- Of what lay in w only the marks' blocks may read otherwise. -/
abbrev OffMarks (ds : List Deferred) (w w' : World) : Prop := Upd (fun i => ∃ d ∈ ds, d = mark i) w w'
theorem leavesInM_marksC {P : Program} {fn : Func} {tmps : Array Value} {R : Value → World → Prop} {base : Nat} {v : Value} : ∀ (ds : List Deferred) (w : World), (∀ w', OffMarks ds w w' → (results fn tmps).run P w' = .ok v w') → Marks base ds w → (∀ w', Upd (fun i => base ≤ i) w w' → OffMarks ds w w' → R v w') →
    LeavesInM (rnd none) 3 P fn tmps (fun e w' => ∃ v, e = .returned v ∧ R v w') ds .returning w
  | [], w, hr, _, hR => ⟨v, hr w (Upd.refl _ _), v, rfl, hR w (Upd.refl _ _) (Upd.refl _ _)⟩
  | d :: ds, w, hr, h, hR => by
    obtain ⟨⟨D, rfl, h2, h3, h4⟩, h5⟩ := h
    refine ⟨by simp, .inl ⟨D, _, rfl, run_takeDeferred h3, ?_⟩⟩
    have u := Upd.putObj w D (.deferred none)
    have hm : Marks base ds (w.putObj D (.deferred none)) := h5.keepLow u h4 (fun k hk => by omega)
    have uo : ∀ {w'}, OffMarks ds (w.putObj D (.deferred none)) w' → OffMarks (mark D :: ds) w w' := fun {w'} h => (u.mono (fun k hk => ⟨mark D, by simp, by subst hk; rfl⟩)).trans (h.mono (fun k ⟨d, h1, h2⟩ => ⟨d, by simp [h1], h2⟩))
    exact leavesInM_marksC ds _ (fun w' h => hr w' (uo h)) hm (fun w' u' h => hR w' ((u.mono (fun k hk => by omega)).trans u') (uo h))
theorem Marks.notCells {base : Nat} {b : Nat} {c : Array Value} {t : TypeId} {f : Nat × Nat} : ∀ {ds : List Deferred} {w : World}, Marks base ds w → w.heap[b]? = some (.cells c t f) → ¬ ∃ d ∈ ds, d = mark b
  | [], _, _, _, h => by obtain ⟨_, h, _⟩ := h; cases h
  | d :: ds, w, h, hb, hq => by
    obtain ⟨⟨D, h1, h2, h3, h4⟩, h5⟩ := h
    obtain ⟨d', hd, e⟩ := hq
    rcases List.mem_cons.1 hd with rfl | hd
    · rw [h1] at e
      injection e with e
      injection e with e
      subst e
      rw [h3] at hb
      cases hb
    · exact h5.notCells hb ⟨d', hd, e⟩
theorem Marks.notBlk {base : Nat} {b : Nat} {t : TypeId} {cs : List Value} {ds : List Deferred} {w : World} (h : Marks base ds w) (hb : Blk w b t cs) : ¬ ∃ d ∈ ds, d = mark b := h.notCells hb
/-- A result, read behind the marks. -/
def ResM (P : Program) (ds : List Deferred) (w : World) (L : Slots) (r : ResultVar) (v : Value) : Prop := ∀ w', OffMarks ds w w' → Res P w' L r v
theorem ResM.tmp {P : Program} {ds : List Deferred} {w : World} {L : Slots} {t : Nat} {v : Value} (h : look t L = some v) : ResM P ds w L (.tmp t) v := fun _ _ => h
theorem ResM.cell {P : Program} {ds : List Deferred} {w : World} {L : Slots} {s t b off base : Nat} {t' : TypeId} {cs : List Value} {v : Value} (hm : Marks base ds w) (hl : look s L = some (.pointer (some ⟨b, off, none⟩))) (ha : ∀ w, (isAgg t).run P w = .ok false w) (hb : Blk w b t' cs) (hv : cs[off]? = some v) : ResM P ds w L (.cell s t) v :=
  fun _w' u => ⟨b, off, hl, run_loadVar1 ha ((hb.keep u (hm.notBlk hb)).get hv)⟩

section steps
variable {P : Program} {N : Nat} {ds : List Deferred} {L : Slots} {w : World}
theorem f_retMc2 {R : Value → World → Prop} {fn : Func} {r1 r2 : ResultVar} {v1 v2 : Value} {base : Nat} (hf : fn.results = #[r1, r2]) (h1 : ResM P ds w L r1 v1) (h2 : ResM P ds w L r2 v2) (hm : Marks base ds w) (hR : ∀ w', Upd (fun i => base ≤ i) w w' → OffMarks ds w w' → R (.tuple #[v1, v2]) w') :
    QK (bodyPostM (rnd none) 3 P fn (fun e w' => ∃ v, e = .returned v ∧ R v w') .ret) N ds L w := by
  refine ⟨fun a ha => ?_⟩
  show LeavesInM (rnd none) 3 P fn a.tmps _ a.defers .returning w
  rw [ha.defers]
  refine leavesInM_marksC ds w (fun w' u => ?_) hm hR
  have e1 := Res.run (h1 w' u) ha
  have e2 := Res.run (h2 w' u) ha
  rw [results_of, hf]
  simp [e1, e2]
theorem f_retMc1 {R : Value → World → Prop} {fn : Func} {r1 : ResultVar} {v : Value} {base : Nat} (hf : fn.results = #[r1]) (h1 : ResM P ds w L r1 v) (hm : Marks base ds w) (hR : ∀ w', Upd (fun i => base ≤ i) w w' → OffMarks ds w w' → R v w') :
    QK (bodyPostM (rnd none) 3 P fn (fun e w' => ∃ v, e = .returned v ∧ R v w') .ret) N ds L w := by
  refine ⟨fun a ha => ?_⟩
  show LeavesInM (rnd none) 3 P fn a.tmps _ a.defers .returning w
  rw [ha.defers]
  refine leavesInM_marksC ds w (fun w' u => ?_) hm hR
  have e1 := Res.run (h1 w' u) ha
  rw [results_of, hf]
  simp [e1]
theorem f_retMc3 {R : Value → World → Prop} {fn : Func} {r1 r2 r3 : ResultVar} {v1 v2 v3 : Value} {base : Nat} (hf : fn.results = #[r1, r2, r3]) (h1 : ResM P ds w L r1 v1) (h2 : ResM P ds w L r2 v2) (h3 : ResM P ds w L r3 v3) (hm : Marks base ds w) (hR : ∀ w', Upd (fun i => base ≤ i) w w' → OffMarks ds w w' → R (.tuple #[v1, v2, v3]) w') :
    QK (bodyPostM (rnd none) 3 P fn (fun e w' => ∃ v, e = .returned v ∧ R v w') .ret) N ds L w := by
  refine ⟨fun a ha => ?_⟩
  show LeavesInM (rnd none) 3 P fn a.tmps _ a.defers .returning w
  rw [ha.defers]
  refine leavesInM_marksC ds w (fun w' u => ?_) hm hR
  have e1 := Res.run (h1 w' u) ha
  have e2 := Res.run (h2 w' u) ha
  have e3 := Res.run (h3 w' u) ha
  rw [results_of, hf]
  simp [e1, e2, e3]
end steps
end Go.Proofs.YtjdcpnaocjddoaaGreatDoor
namespace Go.Proofs.YtjdcpnaocjddoaaGreatDoor
open Go Go.RowKit Go.Proofs.Tryz
set_option maxHeartbeats 4000000 in
set_option maxRecDepth 20000 in
theorem open_c (xs : List UInt8) (ab : Option Addr) (bb ob cb : Nat) (w0 : World) (hs : Sl encY 1 w0 ab bb ob xs) (hcb : xs.length ≤ cb) (hxl : xs.length ≤ 1000000) (hpos : 0 < w0.heap.size) :
    CallsV Tryz.prog 65 [.slice ab xs.length cb] w0 (fun v w' => (∃ a9 g9 c9, v = .tuple #[.slice a9 (List.length (opP xs)) c9, .int .i64 (opE xs)] ∧ Acc encBk 32 124 w0.heap.size w' a9 g9 c9 (opP xs)) ∧ Ext w0 w') := by
 refine f_enterM (N := 36) func65 rfl rfl rfl (q_of ?_)
 refine go ?_
 refine x_n fun bk2 w3 ebk2 sbk2 B4 u5 => ?_
 have hN0 : Acc encBk 32 124 w0.heap.size w3 none 0 0 ([] : List Bk) := Acc.nil _ _ _ _ _ hpos (by omega)
 have lt_0 := hN0.lt
 refine go ?_
 refine t_quo rfl rfl rfl rfl (by omega) (by omega) (t_same 8 (v := .int .i64 ((xs.length / 32 : Nat) : Int)) rfl (congrArg (Value.int .i64) (by omega)) ?_)
 iterate 5 refine st1 ?_
 refine x_k1 (fun _ => False) [0, 2, 4] (fun (z9 : Bool) => [(9, .bool z9)]) (fun z9 w => (z9 = decide (xs.length % 32 ≠ 0 ∨ xs.length / 32 < 2 ∨ xs.length / 32 % 5 = 1))) (fun K13 hK13 => ?_) ?_
 ·
  refine go ?_
  refine t_rem rfl rfl rfl rfl (by omega) (by omega) ?_
  refine go ?_
  refine t_splitp 14 rfl (fun g14 => ?_) (fun g14 => ?_)
  ·
   refine go ?_
   exact hK13 true (by first | exact (decide_eq_false (by omega)).symm | exact (decide_eq_true (by omega)).symm | exact decide_eq_decide.2 (by omega))
  refine go ?_
  refine t_splitp 18 rfl (fun g18 => ?_) (fun g18 => ?_)
  ·
   refine go ?_
   exact hK13 true (by first | exact (decide_eq_false (by omega)).symm | exact (decide_eq_true (by omega)).symm | exact decide_eq_decide.2 (by omega))
  refine go ?_
  refine t_rem rfl rfl rfl rfl (by omega) (by omega) ?_
  refine go ?_
  exact hK13 (decide ((((xs.length / 32 : Nat) : Int) % 5) = 1)) (by first | exact (decide_eq_false (by omega)).symm | exact (decide_eq_true (by omega)).symm | exact decide_eq_decide.2 (by omega))
 rintro z9 w14 hz9 u15 zu15
 have E16 := Sc.mk (((Upd.refl (fun _ => False) w0).nx u5).nx u15)
 refine q_b (fun g9 => ?_) fun g9 => ?_
 ·
  have hzb : (xs.length % 32 ≠ 0 ∨ xs.length / 32 < 2 ∨ xs.length / 32 % 5 = 1) := by rw [hz9] at g9; exact of_decide_eq_true g9
  refine go ?_
  have B18 := (B4.kx u15)
  refine x_s fun w19 sw19 B21 u20 => ?_
  refine go ?_
  have D25 := ((((show Marks w0.heap.size [] w0 from trivial).keep u5 (CellsIn.none _)).keep u15 (CellsIn.none _)).keep u20 (B18).cellsIn)
  have hmkE := D25
  refine f_retMc2 (v1 := .slice none 0 0) (v2 := .int .i64 4) results65 (.cell D25 rfl isAgg100 B21 rfl) (.tmp rfl) D25 (fun w23 u24 omw23 => ?_)
  have zu24 := u24.size
  have he : opE xs = 4 := by unfold opE; rw [if_pos hzb]
  exact ⟨⟨none, 0, 0, by unfold opP; rw [he]; rfl, by unfold opP; rw [he]; exact (Acc.nil _ _ _ _ _ hpos (by omega))⟩, ((E16.u.next u20 (fun i hi h => by omega)).next u24 (fun i hi (h : w0.heap.size ≤ i) => show False by first | omega | assumption))⟩
 have hzb : ¬ (xs.length % 32 ≠ 0 ∨ xs.length / 32 < 2 ∨ xs.length / 32 % 5 = 1) := by rw [hz9] at g9; exact of_decide_eq_false g9
 refine go ?_
 refine q_p (fun g23 => ?_) fun g23 => ?_
 ·
  refine go ?_
  have B29 := (B4.kx u15)
  refine x_s fun w30 sw30 B32 u31 => ?_
  refine go ?_
  have D36 := ((((show Marks w0.heap.size [] w0 from trivial).keep u5 (CellsIn.none _)).keep u15 (CellsIn.none _)).keep u31 (B29).cellsIn)
  have hmkE := D36
  refine f_retMc2 (v1 := .slice none 0 0) (v2 := .int .i64 5) results65 (.cell D36 rfl isAgg100 B32 rfl) (.tmp rfl) D36 (fun w34 u35 omw34 => ?_)
  have zu35 := u35.size
  have he : opE xs = 5 := by unfold opE; rw [if_neg hzb, if_pos (by omega)]
  exact ⟨⟨none, 0, 0, by unfold opP; rw [he]; rfl, by unfold opP; rw [he]; exact (Acc.nil _ _ _ _ _ hpos (by omega))⟩, ((E16.u.next u31 (fun i hi h => by omega)).next u35 (fun i hi (h : w0.heap.size ≤ i) => show False by first | omega | assumption))⟩
 have hE0 : opE xs = 0 := by unfold opE; rw [if_neg hzb, if_neg (by omega)]
 have hok := opE_ok hE0
 refine go ?_
 refine x_c func110 rfl rfl (chunk_c ab xs.length cb _) ?_
 rintro _ w41 ⟨⟨b1, b2, rfl, hgb1, hgb2, hb1, hb2⟩, u42⟩ zu42
 have E44 := Sc.mk (E16.u.nx u42)
 have lb1 := hb1.lt
 have lb2 := hb2.lt
 refine go ?_
 refine WC.weak [(2, .pointer (some ⟨bk2, 0, none⟩)), (27, .func (.func 144) #[] #[.pointer (some ⟨b1, 0, none⟩), .pointer (some ⟨b2, 0, none⟩)])] ⟨rfl, rfl, trivial⟩ ?_
 have B45 := ((B4.kx u15).kx u42)
 have lbv := B45.lt
 have D46 := ((hN0.keep u15 (fun _ h => h)).keep u42 (fun _ h => h))
 refine c_range (α := (Ix (xs.length / 32))) (lb := [.pointer (some ⟨b1, 0, none⟩), .pointer (some ⟨b2, 0, none⟩)]) (enc := (encCk ab)) (T := fun i => i = bk2 ∨ w41.heap.size ≤ i) own144 rfl rfl (chunk_seq (xs.length / 32) xs.length ab cb b1 b2 _ _ hok.1 (by omega) hcb hb1 hb2 (show ¬ (b1 = bk2 ∨ w41.heap.size ≤ b1) by omega) (show ¬ (b2 = bk2 ∨ w41.heap.size ≤ b2) by omega)) (fun i hi => by omega) (fun pre w => ∃ a3 : Option Addr, ∃ g3 : Nat, ∃ c3 : Nat, ∃ v3 : List Bk, Upd (fun i => i = bk2) w41 w ∧ Blk w bk2 100 [.slice a3 v3.length c3] ∧ (Acc encBk 32 124 w0.heap.size w a3 g3 c3 v3) ∧ (v3 = pre.map (fun k => mk32 (ckP xs k.1))) ∧ (g3 = 0 ∨ w41.heap.size ≤ g3) ∧ (v3.length = pre.length)) (ownFrom_ex (fun a3 => ownFrom_ex (fun g3 => ownFrom_ex (fun c3 => ownFrom_ex (fun v3 => (ownFrom_upd (Nat.le_refl _)).and (ownFrom_blk.and (ownFrom_acc.and ((ownFrom_pure _ _).and ((ownFrom_pure _ _).and (ownFrom_pure _ _)))))))))) ⟨none, 0, 0, [], Upd.refl _ _, B45, D46, rfl, (.inl rfl), rfl⟩ (fun x => [(2, .pointer (some ⟨bk2, 0, none⟩)), (5, .slice (subAddr ab (32 * x.1 + 32) (32 * x.1) 1) 32 32)]) ?_ ?_ ?_
 ·
  intro l pre x W K47 hI hK47
  change WC _ _ _ _ _ _ [(28, .slice (subAddr ab (32 * x.1 + 32) (32 * x.1) 1) 32 32), (2, .pointer (some ⟨bk2, 0, none⟩)), (27, .func (.func 144) #[] #[.pointer (some ⟨b1, 0, none⟩), .pointer (some ⟨b2, 0, none⟩)])] _
  refine (q_of ?_)
  refine go ?_
  exact hK47 _ ⟨rfl, rfl, trivial⟩
 ·
  intro l pre x w48 hI hlen
  obtain ⟨a3, g3, c3, v3, u49, I50, I51, I52, I53, I54⟩ := hI
  change WC _ _ _ _ _ _ [(2, .pointer (some ⟨bk2, 0, none⟩)), (5, .slice (subAddr ab (32 * x.1 + 32) (32 * x.1) 1) 32 32)] _
  refine (q_of ?_)
  have zu49 := u49.size
  have E55 := Sc.mk (E44.u.next u49 (fun i hi h => by omega))
  have hA3 := I51; clear I51
  have hv3 := I52; clear I52
  have hg3 := I53; clear I53
  have hl3 := I54; clear I54
  have lt_g3 := hA3.lt
  have hpl : pre.length < (xs.length / 32) := hlen
  have hck := ck_at ((hs.keep E55.u (fun _ h => h))) hok.1 x.2
  have hcellsR := ((I50).cellsIn.or (hA3).cellsIn)
  refine go ?_
  refine c_drawnM follows (fun i => (i = g3 ∧ w0.heap.size ≤ i) ∨ i = bk2) (.look 1 (.look 2 (.act 0 (.act 3 (.act 4 (.act 5 (.act 6 .done .stop) .stop) .stop) .stop) (.act 3 (.act 0 (.act 4 (.act 5 (.act 6 .done .stop) .stop) .stop) (.act 4 (.act 0 (.act 5 (.act 6 .done .stop) .stop) .stop) .stop)) .stop)))) (by kernel_rfl) fun w56 u57 => ?_
  have zu57 := u57.size
  have E58 := Sc.mk (E55.u.nx u57)
  refine go ?_
  refine y_arrP underlying124 rfl rfl rfl (by decide) (y_same 31 (v := .pointer (some ⟨bb, ob + 32 * x.1, none⟩)) rfl (congrArg Value.pointer hck.1) (s_or ?_ ?_))
  ·
   refine go ?_
   refine t_ldY (l := (mk32 (ckP xs x.1)).l) isAgg124 sizeOf124 rfl rfl rfl (ck_at ((hs.keep E58.u (fun _ h => h))) hok.1 x.2).2 (Bk.h (mk32 (ckP xs x.1))) ?_
   refine go ?_
   refine t_bslice1 (vs := ys ((mk32 (ckP xs x.1)).l)) underlying100 sizeOf124 zeroValue124 (by decide) (by decide) rfl rfl rfl rfl (by rw [ys_length]; exact (Bk.h (mk32 (ckP xs x.1)))) (fun bk59 w60 ebk59 sbk59 B61 u62 => ?_)
   refine go ?_
   have D64 := ((hA3.keep u57 (fun _ h => h)).keep u62 (fun _ h => h))
   refine t_append (z := .agg #[.int .u8 0, .int .u8 0, .int .u8 0, .int .u8 0, .int .u8 0, .int .u8 0, .int .u8 0, .int .u8 0, .int .u8 0, .int .u8 0, .int .u8 0, .int .u8 0, .int .u8 0, .int .u8 0, .int .u8 0, .int .u8 0, .int .u8 0, .int .u8 0, .int .u8 0, .int .u8 0, .int .u8 0, .int .u8 0, .int .u8 0, .int .u8 0, .int .u8 0, .int .u8 0, .int .u8 0, .int .u8 0, .int .u8 0, .int .u8 0, .int .u8 0, .int .u8 0]) (bytes := 32) (k := 32) (base := w0.heap.size) (mk32 (ckP xs x.1)) underlying100 (by kernel_rfl) rfl (by decide) encBk_len encBk_one rfl rfl rfl rfl D64 B61 (by omega) (by omega) (by decide) (fun ao65 gb66 cp67 w68 A69 u70 gegb66 lngb66 => ?_)
   have zu70 := u70.size
   have lt_gb66 := A69.lt
   refine go ?_
   refine x_s fun w73 sw73 B75 u74 => ?_
   refine go ?_
   have hUr := (((((Upd.refl (fun i => i = bk2 ∨ (i = g3 ∧ w0.heap.size ≤ i)) w48).nx u57).nx u62).next u70 (fun i hi h => by omega)).next u74 (fun i hi h => by omega))
   have D77 := (A69.keep u74 (fun hb => show ¬ (gb66 = bk2) by first | omega | assumption))
   exact ⟨fun a ha => ⟨KeepsFrom.of_upd hUr hcellsR, hUr.mono (fun i h => show i = bk2 ∨ w41.heap.size ≤ i by omega), ao65, gb66, cp67, (v3 ++ [(mk32 (ckP xs x.1))]), ((((u49.nx u57).nx u62).next u70 (fun i hi h => by omega)).next u74 (fun i hi h => by omega)), B75, D77, (by rw [List.map_append, hv3]; rfl), (show gb66 = 0 ∨ w41.heap.size ≤ gb66 by omega), (by rw [List.length_append, List.length_append, hl3]; rfl)⟩⟩
  refine go ?_
  refine t_ldY (l := (mk32 (ckP xs x.1)).l) isAgg124 sizeOf124 rfl rfl rfl (ck_at ((hs.keep E58.u (fun _ h => h))) hok.1 x.2).2 (Bk.h (mk32 (ckP xs x.1))) ?_
  refine go ?_
  refine s_or ?_ ?_
  ·
   refine go ?_
   refine t_bslice1 (vs := ys ((mk32 (ckP xs x.1)).l)) underlying100 sizeOf124 zeroValue124 (by decide) (by decide) rfl rfl rfl rfl (by rw [ys_length]; exact (Bk.h (mk32 (ckP xs x.1)))) (fun bk78 w79 ebk78 sbk78 B80 u81 => ?_)
   refine go ?_
   have D83 := ((hA3.keep u57 (fun _ h => h)).keep u81 (fun _ h => h))
   refine t_append (z := .agg #[.int .u8 0, .int .u8 0, .int .u8 0, .int .u8 0, .int .u8 0, .int .u8 0, .int .u8 0, .int .u8 0, .int .u8 0, .int .u8 0, .int .u8 0, .int .u8 0, .int .u8 0, .int .u8 0, .int .u8 0, .int .u8 0, .int .u8 0, .int .u8 0, .int .u8 0, .int .u8 0, .int .u8 0, .int .u8 0, .int .u8 0, .int .u8 0, .int .u8 0, .int .u8 0, .int .u8 0, .int .u8 0, .int .u8 0, .int .u8 0, .int .u8 0, .int .u8 0]) (bytes := 32) (k := 32) (base := w0.heap.size) (mk32 (ckP xs x.1)) underlying100 (by kernel_rfl) rfl (by decide) encBk_len encBk_one rfl rfl rfl rfl D83 B80 (by omega) (by omega) (by decide) (fun ao84 gb85 cp86 w87 A88 u89 gegb85 lngb85 => ?_)
   have zu89 := u89.size
   have lt_gb85 := A88.lt
   refine go ?_
   refine x_s fun w92 sw92 B94 u93 => ?_
   refine go ?_
   have hUr := (((((Upd.refl (fun i => i = bk2 ∨ (i = g3 ∧ w0.heap.size ≤ i)) w48).nx u57).nx u81).next u89 (fun i hi h => by omega)).next u93 (fun i hi h => by omega))
   have D96 := (A88.keep u93 (fun hb => show ¬ (gb85 = bk2) by first | omega | assumption))
   exact ⟨fun a ha => ⟨KeepsFrom.of_upd hUr hcellsR, hUr.mono (fun i h => show i = bk2 ∨ w41.heap.size ≤ i by omega), ao84, gb85, cp86, (v3 ++ [(mk32 (ckP xs x.1))]), ((((u49.nx u57).nx u81).next u89 (fun i hi h => by omega)).next u93 (fun i hi h => by omega)), B94, D96, (by rw [List.map_append, hv3]; rfl), (show gb85 = 0 ∨ w41.heap.size ≤ gb85 by omega), (by rw [List.length_append, List.length_append, hl3]; rfl)⟩⟩
  refine go ?_
  refine t_bslice1 (vs := ys ((mk32 (ckP xs x.1)).l)) underlying100 sizeOf124 zeroValue124 (by decide) (by decide) rfl rfl rfl rfl (by rw [ys_length]; exact (Bk.h (mk32 (ckP xs x.1)))) (fun bk97 w98 ebk97 sbk97 B99 u100 => ?_)
  refine go ?_
  have D102 := ((hA3.keep u57 (fun _ h => h)).keep u100 (fun _ h => h))
  refine t_append (z := .agg #[.int .u8 0, .int .u8 0, .int .u8 0, .int .u8 0, .int .u8 0, .int .u8 0, .int .u8 0, .int .u8 0, .int .u8 0, .int .u8 0, .int .u8 0, .int .u8 0, .int .u8 0, .int .u8 0, .int .u8 0, .int .u8 0, .int .u8 0, .int .u8 0, .int .u8 0, .int .u8 0, .int .u8 0, .int .u8 0, .int .u8 0, .int .u8 0, .int .u8 0, .int .u8 0, .int .u8 0, .int .u8 0, .int .u8 0, .int .u8 0, .int .u8 0, .int .u8 0]) (bytes := 32) (k := 32) (base := w0.heap.size) (mk32 (ckP xs x.1)) underlying100 (by kernel_rfl) rfl (by decide) encBk_len encBk_one rfl rfl rfl rfl D102 B99 (by omega) (by omega) (by decide) (fun ao103 gb104 cp105 w106 A107 u108 gegb104 lngb104 => ?_)
  have zu108 := u108.size
  have lt_gb104 := A107.lt
  refine go ?_
  refine x_s fun w111 sw111 B113 u112 => ?_
  refine go ?_
  have hUr := (((((Upd.refl (fun i => i = bk2 ∨ (i = g3 ∧ w0.heap.size ≤ i)) w48).nx u57).nx u100).next u108 (fun i hi h => by omega)).next u112 (fun i hi h => by omega))
  have D115 := (A107.keep u112 (fun hb => show ¬ (gb104 = bk2) by first | omega | assumption))
  exact ⟨fun a ha => ⟨KeepsFrom.of_upd hUr hcellsR, hUr.mono (fun i h => show i = bk2 ∨ w41.heap.size ≤ i by omega), ao103, gb104, cp105, (v3 ++ [(mk32 (ckP xs x.1))]), ((((u49.nx u57).nx u100).next u108 (fun i hi h => by omega)).next u112 (fun i hi h => by omega)), B113, D115, (by rw [List.map_append, hv3]; rfl), (show gb104 = 0 ∨ w41.heap.size ≤ gb104 by omega), (by rw [List.length_append, List.length_append, hl3]; rfl)⟩⟩
 ·
  have hmk0 := ((show Marks w0.heap.size [] w0 from trivial).keep ((((Upd.refl (fun _ => False) _).nx u5).nx u15).nx u42) (CellsIn.none _))
  have hmc0 := (B45).cellsIn
  intro D118 ks w116 hD118 hS hI hdD118
  obtain ⟨a3, g3, c3, v3, u117, I119, I120, I121, I122, I123⟩ := hI
  have zu117 := u117.size
  have hA3 := I120; clear I120
  have hv3 := I121; clear I121
  have hg3 := I122; clear I122
  have hl3 := I123; clear I123
  have lt_g3 := hA3.lt
  have mk125 := (hmk0.keep u117 hmc0).push (D := D118) (by omega) hdD118 (fun d hd D' e => Nat.lt_of_lt_of_le (hmk0.lt d hd D' e) hD118)
  have hvk : v3 = blksP xs (xs.length / 32) := by
    rw [hv3]
    unfold blksP
    rw [← hS, List.map_map]; rfl
  refine go ?_
  refine x_s fun w127 sw127 B129 u128 => ?_
  refine go ?_
  have D131 := (hA3.keep u128 (fun hb => show ¬ (g3 = bk2) by first | omega | assumption))
  have D134 := (mk125.keep u128 (I119).cellsIn)
  have hmkE := D134
  refine f_retMc2 (v1 := .slice a3 v3.length c3) (v2 := .int .i64 0) results65 (.cell D134 rfl isAgg100 B129 rfl) (.tmp rfl) D134 (fun w132 u133 omw132 => ?_)
  have zu133 := u133.size
  have hacW := D131.keep omw132 (fun hb9 hd9 => by
    rcases (D131).at_ with ⟨_, _, _, h6⟩ | ⟨_, _, cur, h7, _⟩
    · omega
    · exact hmkE.notCells h7 hd9)
  have hop : opP xs = v3 := by unfold opP; rw [if_pos hE0, hvk]
  exact ⟨⟨a3, g3, c3, by rw [hop, hE0], by rw [hop]; exact hacW⟩, (((E44.u.next u117 (fun i hi h => by omega)).next u128 (fun i hi h => by omega)).next u133 (fun i hi (h : w0.heap.size ≤ i) => show False by first | omega | assumption))⟩

end Go.Proofs.YtjdcpnaocjddoaaGreatDoor
namespace Go.Proofs.YtjdcpnaocjddoaaGreatDoor
open Go Go.RowKit Go.Proofs.Tryz
/-! ### damaged blocks are restored -/
def gF (k : Nat) : Nat := k - k % 5
def gL (n k : Nat) : Nat := min (gF k + 4) (n - 1)
def badB (v : List Bk) (k : Nat) : Bool := !decide ((nth v k).l.drop 30 = chkP (nth v k).l k)
def badP (v : List Bk) : List Nat := (List.range v.length).filter (badB v)
def nats (l : List Nat) : List Int := l.map fun k : Nat => (k : Int)
def mixG (v : List Bk) (k f : Nat) : Nat → Bk
  | 0 => zeroBk
  | n + 1 => if f + n = k then mixG v k f n else (mixG v k f n).mix (nth v (f + n))
def rst (v : List Bk) (k : Nat) : Bk := (mixG v k (gF k) (gL v.length k + 1 - gF k)).shutB k
def fixG (p : Int) (v : List Bk) : List Nat → Option (List Bk)
  | [] => some v
  | k :: r => if ((gF k : Nat) : Int) ≤ p then none else fixG (k : Int) (v.set k (rst v k)) r
/-- what Repair returns -/
def repR (b : List UInt8) : List UInt8 × List Int × Int :=
  if opE b ≠ 0 then ([], [], opE b) else match fixG (-1) (opP b) (badP (opP b)) with
    | none => ([], [], 121)
    | some v => (bytesP v, nats (badP (opP b)), 0)
theorem filter_succ {p : Nat → Bool} (k : Nat) : (List.range (k + 1)).filter p = (List.range k).filter p ++ (if p k then [k] else []) := by
  rw [List.range_succ, List.filter_append]
  cases h : p k <;> simp [h]
theorem fix_none {p : Int} {v : List Bk} {k : Nat} {r : List Nat} (h : ((gF k : Nat) : Int) ≤ p) : fixG p v (k :: r) = none := by
  show (if _ then _ else _) = _
  rw [if_pos h]
theorem fix_step {p : Int} {v : List Bk} {k : Nat} {r : List Nat} (h : ¬ ((gF k : Nat) : Int) ≤ p) : fixG p v (k :: r) = fixG (k : Int) (v.set k (rst v k)) r := by
  show (if _ then _ else _) = _
  rw [if_neg h]
theorem gF_le (k : Nat) : gF k ≤ k := Nat.sub_le _ _
theorem group_c (n k : Nat) (av : Option Addr) (cv : Nat) (w0 : World) (hn : 1 ≤ n ∧ n ≤ 1000000) (hk : k ≤ 1000000) :
    CallsV Tryz.prog 67 [.slice av n cv, .int .i64 (k : Int)] w0 (fun v w' => v = .tuple #[.int .i64 ((gF k : Nat) : Int), .int .i64 ((gL n k : Nat) : Int)] ∧ Ext w0 w') := by
 obtain ⟨hn1, hn2⟩ := hn
 have hf : ((gF k : Nat) : Int) = (k : Int) - (k : Int) % 5 := by unfold gF; omega
 have hl : ((gL n k : Nat) : Int) = min ((k : Int) - (k : Int) % 5 + 4) ((n : Int) - 1) := by unfold gL gF; omega
 refine f_n func67 ?_
 refine go ?_
 refine t_rem rfl rfl rfl rfl (by omega) (by omega) ?_
 refine go ?_
 refine t_min rfl rfl rfl rfl ?_
 refine go ?_
 refine f_ret2 (v1 := .int .i64 ((k : Int) - ((k : Int) % 5))) (v2 := .int .i64 (min (((k : Int) - ((k : Int) % 5)) + 4) ((n : Int) - 1))) results67 rfl rfl ?_
 exact ⟨by rw [hf, hl], u_d⟩

end Go.Proofs.YtjdcpnaocjddoaaGreatDoor
namespace Go.Proofs.YtjdcpnaocjddoaaGreatDoor
open Go Go.RowKit
/-! ### a log's groups: what is damaged can be restored -/
/-- byte j of blocks f, f+1, .., taken together -/
def bxA (v : List Bk) (f j : Nat) : Nat → UInt8
  | 0 => 0
  | n + 1 => bxA v f j n ^^^ nth (nth v (f + n)).l j
theorem xor_zero (a : UInt8) : a ^^^ 0 = a := by simp
theorem xor_self' (a : UInt8) : a ^^^ a = 0 := by simp
theorem xor_comm' (a b : UInt8) : a ^^^ b = b ^^^ a := UInt8.xor_comm a b
theorem xor_assoc' (a b c : UInt8) : a ^^^ b ^^^ c = a ^^^ (b ^^^ c) := UInt8.xor_assoc a b c
theorem mix_nth {a b : Bk} {j : Nat} (hj : j < 30) : nth (a.mix b).l j = nth a.l j ^^^ nth b.l j := by
  have ha := a.h
  have hb := b.h
  show nth (List.zipWith (· ^^^ ·) (a.l.take 30) (b.l.take 30) ++ a.l.drop 30) j = _
  have h1 : (List.zipWith (· ^^^ ·) (a.l.take 30) (b.l.take 30)).length = 30 := by rw [List.length_zipWith, blk30, blk30]; rfl
  rw [nth_app_l (by omega), nth_eq (by omega), List.getElem_zipWith, List.getElem_take, List.getElem_take, nth_eq (by omega), nth_eq (by omega)]
theorem zero_nth {j : Nat} (hj : j < 32) : nth zeroBk.l j = 0 := nth_rep hj
theorem shut_take (b : Bk) (k : Nat) : (b.shutB k).l.take 30 = b.l.take 30 := by
  have := blk30 b
  show (b.l.take 30 ++ chkP b.l k).take 30 = _
  rw [List.take_append_of_le_length (by omega), List.take_of_length_le (by omega)]
theorem shut_nth (b : Bk) (k : Nat) {j : Nat} (hj : j < 30) : nth (b.shutB k).l j = nth b.l j := by
  have h := congrArg (fun l => nth l j) (shut_take b k)
  simpa only [nth_takeL hj] using h
theorem chkP_take {a b : List UInt8} (k : Nat) (h : a.take 30 = b.take 30) : chkP a k = chkP b k := by
  unfold chkP chkN; rw [h]
theorem shut_sound (b : Bk) (k : Nat) : (b.shutB k).l.drop 30 = chkP (b.shutB k).l k := by
  have := blk30 b
  rw [chkP_take k (shut_take b k)]
  show (b.l.take 30 ++ chkP b.l k).drop 30 = _
  rw [List.drop_append_of_le_length (by omega), List.drop_of_length_le (by omega), List.nil_append]
/-- blocks in groups: each is sound, and each group's bytes cancel out -/
structure GoodV (v : List Bk) : Prop where
  two : 2 ≤ v.length
  mod : v.length % 5 ≠ 1
  ok : ∀ k, k < v.length → (nth v k).l.drop 30 = chkP (nth v k).l k
  par : ∀ f, f % 5 = 0 → f < v.length → ∀ j, j < 30 → bxA v f j (min 5 (v.length - f)) = 0
theorem foldR_v (s : List Bk × Bk) : ∀ (ds : List Bk), ∃ g, (ds.foldl nextR s).1 = s.1 ++ g ∧ g.length = ds.length ∧ (∀ i, i < ds.length → nth g i = (nth ds i).shutB (s.1.length + i)) := by
  intro ds
  induction ds generalizing s with
  | nil => exact ⟨[], by simp, rfl, fun i h => absurd h (Nat.not_lt_zero _)⟩
  | cons d ds ih =>
    obtain ⟨g, h1, h2, h3⟩ := ih (nextR s d)
    refine ⟨d.shutB s.1.length :: g, ?_, by rw [List.length_cons, List.length_cons, h2], fun i hi => ?_⟩
    · rw [List.foldl_cons, h1]
      show s.1 ++ [d.shutB s.1.length] ++ g = _
      rw [List.append_assoc]; rfl
    · cases i with
      | zero => rfl
      | succ i =>
        have e1 : nth (d.shutB s.1.length :: g) (i + 1) = nth g i := rfl
        have e2 : nth (d :: ds) (i + 1) = nth ds i := rfl
        rw [e1, e2, h3 i (by simpa using hi)]
        show (nth ds i).shutB ((s.1 ++ [d.shutB s.1.length]).length + i) = _
        rw [List.length_append, List.length_cons, List.length_nil, show s.1.length + (0 + 1) + i = s.1.length + (i + 1) by omega]
/-- the parity of data -/
def bxD (ds : List Bk) (j : Nat) : Nat → UInt8
  | 0 => 0
  | n + 1 => bxD ds j n ^^^ nth (nth ds n).l j
theorem foldR_p (v : List Bk) (ds : List Bk) {j : Nat} (hj : j < 30) : ∀ n, n ≤ ds.length → nth ((ds.take n).foldl nextR (v, zeroBk)).2.l j = bxD ds j n
  | 0, _ => zero_nth (by omega)
  | n + 1, h => by
    rw [foldR_snoc (by omega)]
    show nth (((ds.take n).foldl nextR (v, zeroBk)).2.mix (nth ds n)).l j = bxD ds j n ^^^ nth (nth ds n).l j
    rw [mix_nth hj, foldR_p v ds hj n (by omega)]
/-- one group -/
theorem group_ok (v ds : List Bk) (_h4 : ds.length ≤ 4) : ∃ g, shutG (ds.foldl nextR (v, zeroBk)) = v ++ g ∧ g.length = ds.length + 1 ∧ (∀ i, i < g.length → (nth g i).l.drop 30 = chkP (nth g i).l (v.length + i)) ∧ ∀ j, j < 30 → bxA g 0 j g.length = 0 := by
  obtain ⟨g, h1, h2, h3⟩ := foldR_v (v, zeroBk) ds
  have hl : (ds.foldl nextR (v, zeroBk)).1.length = v.length + ds.length := by rw [foldR_len]
  refine ⟨g ++ [(ds.foldl nextR (v, zeroBk)).2.shutB (v.length + ds.length)], ?_, by rw [List.length_append, h2]; rfl, fun i hi => ?_, fun j hj => ?_⟩
  · unfold shutG
    rw [hl, h1, List.append_assoc]
  · rw [List.length_append, h2] at hi
    have hi : i < ds.length + 1 := hi
    by_cases q : i < ds.length
    · rw [nth_app_l (by omega), h3 i q]; exact shut_sound _ _
    · rw [nth_app_r (by omega), show i - g.length = 0 by omega, show v.length + i = v.length + ds.length by omega]
      exact shut_sound _ _
  · rw [List.length_append, h2]
    show bxA _ 0 j ds.length ^^^ nth (nth (g ++ [(ds.foldl nextR (v, zeroBk)).2.shutB (v.length + ds.length)]) (0 + ds.length)).l j = 0
    have e1 : nth (g ++ [(ds.foldl nextR (v, zeroBk)).2.shutB (v.length + ds.length)]) (0 + ds.length) = (ds.foldl nextR (v, zeroBk)).2.shutB (v.length + ds.length) := by
      rw [Nat.zero_add, nth_app_r (by omega), show ds.length - g.length = 0 by omega]; rfl
    have e2 : ∀ n, n ≤ ds.length → bxA (g ++ [(ds.foldl nextR (v, zeroBk)).2.shutB (v.length + ds.length)]) 0 j n = bxD ds j n := by
      intro n
      induction n with
      | zero => intro _; rfl
      | succ n ih =>
        intro hn
        show bxA _ 0 j n ^^^ nth (nth (g ++ [(ds.foldl nextR (v, zeroBk)).2.shutB (v.length + ds.length)]) (0 + n)).l j = bxD ds j n ^^^ nth (nth ds n).l j
        rw [ih (by omega), Nat.zero_add, nth_app_l (by omega), h3 n (by omega), shut_nth _ _ hj]
    have e3 := foldR_p v ds hj ds.length (Nat.le_refl _)
    rw [List.take_length] at e3
    rw [e1, shut_nth _ _ hj, e3, e2 _ (Nat.le_refl _), xor_self']
theorem bxA_shift (u g r : List Bk) (j : Nat) : ∀ n, n ≤ g.length → bxA (u ++ (g ++ r)) u.length j n = bxA g 0 j n
  | 0, _ => rfl
  | n + 1, h => by
    show bxA _ u.length j n ^^^ nth (nth (u ++ (g ++ r)) (u.length + n)).l j = bxA g 0 j n ^^^ nth (nth g (0 + n)).l j
    rw [bxA_shift u g r j n (by omega), nth_app_r (by omega), Nat.add_sub_cancel_left, nth_app_l (by omega), Nat.zero_add]
theorem grp_good : ∀ (n : Nat) (u ds : List Bk), ds.length ≤ n → u.length % 5 = 0 → ∃ r, grpN n u ds = u ++ r ∧ (0 < ds.length → 2 ≤ r.length ∧ (u.length + r.length) % 5 ≠ 1 ∧ 4 * r.length ≤ 5 * ds.length + 4) ∧ (ds.length = 0 → r = []) ∧ (∀ k, k < r.length → (nth r k).l.drop 30 = chkP (nth r k).l (u.length + k)) ∧
    ∀ f, f % 5 = 0 → u.length ≤ f → f < u.length + r.length → ∀ j, j < 30 → bxA (u ++ r) f j (min 5 (u.length + r.length - f)) = 0 := by
  intro n
  induction n with
  | zero =>
    intro u ds h _
    have : ds = [] := List.length_eq_zero_iff.1 (by omega)
    subst this
    exact ⟨[], by simp [grpN], fun h => absurd h (Nat.lt_irrefl _), fun _ => rfl, fun k hk => absurd hk (Nat.not_lt_zero _), fun f _ h1 h2 => by simp at h2; omega⟩
  | succ n ih =>
    intro u ds h h5
    by_cases h0 : ds.length = 0
    · have : ds = [] := List.length_eq_zero_iff.1 h0
      subst this
      exact ⟨[], by simp [grpN], fun h => absurd h (Nat.lt_irrefl _), fun _ => rfl, fun k hk => absurd hk (Nat.not_lt_zero _), fun f _ h1 h2 => by simp at h2; omega⟩
    · obtain ⟨g, g1, g2, g3, g4⟩ := group_ok u (ds.take 4) (by rw [List.length_take]; omega)
      have hgl : g.length = min 4 ds.length + 1 := by rw [g2, List.length_take]
      have hgr : grpN (n + 1) u ds = grpN n (u ++ g) (ds.drop 4) := by
        conv => lhs; unfold grpN
        rw [if_neg h0, g1]
      by_cases h4 : ds.length ≤ 4
      · have hd : ds.drop 4 = [] := List.drop_of_length_le h4
        refine ⟨g, by rw [hgr, hd, grpN_nil], fun _ => by omega, fun h => absurd h h0, g3, fun f hf h1 h2 j hj => ?_⟩
        have hfu : f = u.length := by omega
        subst hfu
        have e := bxA_shift u g [] j (min 5 (u.length + g.length - u.length)) (by omega)
        rw [List.append_nil] at e
        rw [e, show min 5 (u.length + g.length - u.length) = g.length by omega]
        exact g4 j hj
      · have hg5 : g.length = 5 := by omega
        obtain ⟨r, r1, r2, r3, r4, r5⟩ := ih (u ++ g) (ds.drop 4) (by rw [List.length_drop]; omega) (by rw [List.length_append]; omega)
        have r2 := r2 (by rw [List.length_drop]; omega)
        rw [List.length_append, List.length_drop] at r2
        rw [List.length_append] at r4 r5
        refine ⟨g ++ r, by rw [hgr, r1, List.append_assoc], fun _ => by rw [List.length_append]; omega, fun h => absurd h h0, fun k hk => ?_, fun f hf h1 h2 j hj => ?_⟩
        · rw [List.length_append] at hk
          by_cases q : k < g.length
          · rw [nth_app_l q]; exact g3 k q
          · rw [nth_app_r (by omega)]
            have := r4 (k - g.length) (by omega)
            rwa [show u.length + g.length + (k - g.length) = u.length + k by omega] at this
        · rw [List.length_append] at h2 ⊢
          by_cases q : f = u.length
          · subst q
            rw [bxA_shift u g r j _ (by omega), show min 5 (u.length + (g.length + r.length) - u.length) = g.length by omega]
            exact g4 j hj
          · have := r5 f hf (by omega) (by omega) j hj
            rwa [List.append_assoc, show u.length + g.length + r.length - f = u.length + (g.length + r.length) - f by omega] at this
theorem chunk_few : ∀ (n : Nat) (t : List UInt8), t.length ≤ n → 240 * (chunk t).length ≤ t.length + 240
  | 0, t, h => by
    rw [chunk_eq, if_pos (by omega)]; simp
  | n + 1, t, h => by
    rw [chunk_eq]
    split
    · simp
    · have := chunk_few n (t.drop 240) (by rw [List.length_drop]; omega)
      rw [List.length_drop] at this
      rw [List.length_cons]; omega
theorem fill_good (t : List UInt8) : GoodV (fillP t) ∧ 960 * (fillP t).length ≤ 5 * t.length + 2160 := by
  have e : fillP t = grpN ((chunk t).map blkOf).length [] ((chunk t).map blkOf) := by rw [fillP_eq, grp_eq _ _ [] (Nat.le_refl _) rfl]
  have hc : 0 < ((chunk t).map blkOf).length := by
    rw [List.length_map, chunk_eq]
    split <;> simp
  obtain ⟨r, r1, r2, r3, r4, r5⟩ := grp_good ((chunk t).map blkOf).length [] ((chunk t).map blkOf) (Nat.le_refl _) rfl
  rw [List.nil_append] at r1
  have hr := r2 hc
  have z : (([] : List Bk).length) = 0 := rfl
  simp only [z, Nat.zero_add] at hr r4 r5
  have hcf := chunk_few t.length t (Nat.le_refl _)
  rw [List.length_map] at hr
  rw [e, r1]
  refine ⟨?_, by omega⟩
  exact ⟨hr.1, hr.2.1, r4, fun f hf hl j hj => by have := r5 f hf (Nat.zero_le _) hl j hj; rwa [List.nil_append] at this⟩
/-! ### damage is seen: a sound block with one byte changed is not sound -/
def Bk.put (b : Bk) (j : Nat) (x : UInt8) : Bk := ⟨b.l.set j x, by rw [List.length_set]; exact b.h⟩
theorem wsum_set (x : UInt8) : ∀ (l : List UInt8) (i j : Nat), j < l.length → wsum i (l.set j x) = wsum i l + ((i : Int) + j + 1) * ((x.toNat : Int) - ((nth l j).toNat : Int))
  | [], _, _, h => absurd h (Nat.not_lt_zero _)
  | b :: l, i, 0, _ => by
    have e : nth (b :: l) 0 = b := rfl
    simp only [List.set_cons_zero, wsum, e, Int.mul_sub]
    have h0 : ((i : Int) + ((0 : Nat) : Int) + 1) = (i : Int) + 1 := by omega
    rw [h0]; omega
  | b :: l, i, j + 1, h => by
    have e : nth (b :: l) (j + 1) = nth l j := rfl
    have ih := wsum_set x l (i + 1) j (by simpa using h)
    simp only [List.set_cons_succ, wsum, e]
    rw [ih, show ((i + 1 : Nat) : Int) + (j : Int) + 1 = (i : Int) + ((j + 1 : Nat) : Int) + 1 by omega]
    omega
theorem chkP_inj {a b : List UInt8} {k : Nat} (h : chkP a k = chkP b k) : chkN a k = chkN b k := by
  have ha := chkN_range a k
  have hb := chkN_range b k
  unfold chkP at h
  injection h with h1 h2
  injection h2 with h2 _
  have h1 := congrArg UInt8.toNat h1
  have h2 := congrArg UInt8.toNat h2
  rw [UInt8.toNat_ofNat', UInt8.toNat_ofNat'] at h1 h2
  omega
theorem u8_ne {a b : UInt8} (h : a ≠ b) : (a.toNat : Int) ≠ (b.toNat : Int) := fun e => h (UInt8.toNat_inj.1 (by omega))
theorem bad_put {b : Bk} {k j : Nat} {x : UInt8} (hs : b.l.drop 30 = chkP b.l k) (hj : j < 32) (hx : x ≠ nth b.l j) : ¬ (b.put j x).l.drop 30 = chkP (b.put j x).l k := by
  intro h
  have hb := b.h
  have e0 : (b.put j x).l = b.l.set j x := rfl
  rw [e0] at h
  by_cases q : j < 30
  · have e1 : (b.l.set j x).drop 30 = b.l.drop 30 := by rw [List.drop_set, if_pos q]
    have e2 : (b.l.set j x).take 30 = (b.l.take 30).set j x := List.take_set
    rw [e1, hs] at h
    have h3 := chkP_inj h
    unfold chkN weighP at h3
    rw [e2, wsum_set x _ 0 j (by rw [List.length_take]; omega), nth_takeL q] at h3
    have hd : (x.toNat : Int) - ((nth b.l j).toNat : Int) ≠ 0 := by have := u8_ne hx; omega
    have r1 := x.toNat_lt
    have r2 := (nth b.l j).toNat_lt
    obtain ⟨d, hd9⟩ : ∃ d : Int, d = (x.toNat : Int) - ((nth b.l j).toNat : Int) := ⟨_, rfl⟩
    rw [← hd9] at h3 hd
    obtain ⟨D, hD⟩ : ∃ D : Int, D = (((0 : Nat) : Int) + j + 1) * d := ⟨_, rfl⟩
    rw [← hD] at h3
    have hD0 : D ≠ 0 := by rw [hD]; exact Int.mul_ne_zero (by omega) hd
    have hDb : -7650 ≤ D ∧ D ≤ 7650 := by
      by_cases hp : 0 ≤ d
      · have h9 := mul_bound (a := (((0 : Nat) : Int) + j + 1)) (b := d) (n := 30) (by omega) (by omega) hp (by omega)
        omega
      · have h9 := mul_bound (a := (((0 : Nat) : Int) + j + 1)) (b := -d) (n := 30) (by omega) (by omega) (by omega) (by omega)
        rw [Int.mul_neg] at h9
        omega
    omega
  · have e2 : (b.l.set j x).take 30 = b.l.take 30 := by rw [List.take_set, List.set_eq_of_length_le (by rw [List.length_take]; omega)]
    rw [chkP_take k e2, ← hs] at h
    have h9 := congrArg (fun l => nth l (j - 30)) h
    simp only [nth_drop] at h9
    rw [show 30 + (j - 30) = j by omega, nth_setE (by omega)] at h9
    exact hx h9
theorem xor_ne {a d : UInt8} (h : d ≠ 0) : a ^^^ d ≠ a := fun e => h (by
  have h1 : a ^^^ (a ^^^ d) = a ^^^ a := by rw [e]
  rw [← xor_assoc', xor_self', xor_comm', xor_zero] at h1
  exact h1)
theorem bytesP_put (x : UInt8) : ∀ (v : List Bk) (k j : Nat), k < v.length → j < 32 → (bytesP v).set (32 * k + j) x = bytesP (v.set k ((nth v k).put j x))
  | [], _, _, h, _ => absurd h (Nat.not_lt_zero _)
  | b :: v, 0, j, _, hj => by
    have hb := b.h
    have e : bytesP (b :: v) = b.l ++ bytesP v := rfl
    have e2 : nth (b :: v) 0 = b := rfl
    rw [e, e2, Nat.mul_zero, Nat.zero_add, List.set_append_left _ _ (by omega)]; rfl
  | b :: v, k + 1, j, h, hj => by
    have hb := b.h
    have e : bytesP (b :: v) = b.l ++ bytesP v := rfl
    have e2 : nth (b :: v) (k + 1) = nth v k := rfl
    rw [e, e2, List.set_append_right _ _ (by omega), show 32 * (k + 1) + j - b.l.length = 32 * k + j by omega, bytesP_put x v k j (by simpa using h) hj]; rfl
theorem bytesP_nth : ∀ (v : List Bk) (k j : Nat), k < v.length → j < 32 → nth (bytesP v) (32 * k + j) = nth (nth v k).l j
  | [], _, _, h, _ => absurd h (Nat.not_lt_zero _)
  | b :: v, 0, j, _, hj => by
    have hb := b.h
    have e : bytesP (b :: v) = b.l ++ bytesP v := rfl
    have e2 : nth (b :: v) 0 = b := rfl
    rw [e, e2, Nat.mul_zero, Nat.zero_add, nth_app_l (by omega)]
  | b :: v, k + 1, j, h, hj => by
    have hb := b.h
    have e : bytesP (b :: v) = b.l ++ bytesP v := rfl
    have e2 : nth (b :: v) (k + 1) = nth v k := rfl
    rw [e, e2, nth_app_r (by omega), show 32 * (k + 1) + j - b.l.length = 32 * k + j by omega, bytesP_nth v k j (by simpa using h) hj]
theorem set_setE {α : Type} (l : List α) (k : Nat) (a b : α) : (l.set k a).set k b = l.set k b := List.set_set ..
/-! ### damage, group by group -/
structure Dmg (v U : List Bk) (m : Nat) (ks : List Nat) : Prop where
  len : U.length = v.length
  lt : ∀ k ∈ ks, k < m ∧ k < v.length ∧ badB U k = true
  ok : ∀ k, k < v.length → k ∉ ks → nth U k = nth v k
  pw : ks.Pairwise (fun a b => a < gF b)
theorem Dmg.nil (v : List Bk) : Dmg v v 0 [] := ⟨rfl, fun k h => absurd h (by simp), fun _ _ _ => rfl, List.Pairwise.nil⟩
theorem Dmg.mono {v U : List Bk} {m m' : Nat} {ks : List Nat} (h : Dmg v U m ks) (hm : m ≤ m') : Dmg v U m' ks := ⟨h.len, fun k hk => ⟨by have := (h.lt k hk).1; omega, (h.lt k hk).2⟩, h.ok, h.pw⟩
theorem badB_congr {u v : List Bk} {k : Nat} (h : nth u k = nth v k) : badB u k = badB v k := by unfold badB; rw [h]
theorem Dmg.same {v U : List Bk} {m k : Nat} {ks : List Nat} (h : Dmg v U m ks) (hm : m ≤ k) (hk : k < v.length) : nth U k = nth v k := h.ok k hk (fun hq => by have := (h.lt k hq).1; omega)
theorem badB_set {U : List Bk} {k : Nat} {c : Bk} (hk : k < U.length) (h : ¬ c.l.drop 30 = chkP c.l k) : badB (U.set k c) k = true := by
  unfold badB
  rw [nth_setE hk, decide_eq_false h]; rfl
theorem Dmg.step {v U : List Bk} {m m' k : Nat} {ks : List Nat} {c : Bk} (h : Dmg v U m ks) (h5 : m % 5 = 0) (h1 : m ≤ k) (h2 : k < m + 5) (hm : k < m') (hk : k < v.length) (hc : ¬ c.l.drop 30 = chkP c.l k) : Dmg v (U.set k c) m' (ks ++ [k]) := by
  have hl := h.len
  refine ⟨by rw [List.length_set]; exact hl, fun q hq => ?_, fun q hq hn => ?_, ?_⟩
  · rcases List.mem_append.1 hq with hq | hq
    · have h9 := h.lt q hq
      exact ⟨by omega, h9.2.1, by rw [badB_congr (nth_setN (by omega) c)]; exact h9.2.2⟩
    · simp only [List.mem_singleton] at hq
      subst hq
      exact ⟨hm, hk, badB_set (by omega) hc⟩
  · have hne : q ≠ k := fun e => hn (by rw [e]; simp)
    rw [nth_setN hne]
    exact h.ok q hq (fun hm => hn (List.mem_append_left _ hm))
  · rw [List.pairwise_append]
    refine ⟨h.pw, List.pairwise_singleton _ _, fun a ha b hb => ?_⟩
    simp only [List.mem_singleton] at hb
    subst hb
    have := (h.lt a ha).1
    unfold gF; omega
theorem badP_sorted (v : List Bk) : (badP v).Pairwise (· < ·) := by
  unfold badP
  exact List.Pairwise.filter _ List.pairwise_lt_range
theorem badP_iff {v : List Bk} {k : Nat} : k ∈ badP v ↔ k < v.length ∧ badB v k = true := by
  unfold badP
  rw [List.mem_filter, List.mem_range]
theorem opE_bytes {v : List Bk} (hv : GoodV v) (h13 : v.length ≤ 1300) {U : List Bk} (hU : U.length = v.length) : opE (bytesP U) = 0 ∧ opP (bytesP U) = U := by
  have h2 := hv.two
  have h3 := hv.mod
  have e0 : opE (bytesP U) = 0 := by unfold opE; rw [bytesP_len, if_neg (by omega), if_neg (by omega)]
  refine ⟨e0, ?_⟩
  unfold opP
  rw [if_pos e0, bytesP_len, show 32 * U.length / 32 = U.length by omega, blksP_of]
theorem gF_mono {a b : Nat} (h : a ≤ b) : gF a ≤ gF b := by unfold gF; omega
theorem fix_two : ∀ (r : List Nat) (p : Int) (w : List Bk), r.Pairwise (· < ·) → ∀ a b, a ∈ r → b ∈ r → a < b → gF b ≤ a → fixG p w r = none
  | [], _, _, _, _, _, h, _, _, _ => absurd h (by simp)
  | k :: r, p, w, hp, a, b, ha, hb, hab, hg => by
    obtain ⟨hp1, hp2⟩ := List.pairwise_cons.1 hp
    by_cases q : ((gF k : Nat) : Int) ≤ p
    · exact fix_none q
    · rw [fix_step q]
      have hb' : b ∈ r := by
        rcases List.mem_cons.1 hb with e | e
        · exfalso
          rcases List.mem_cons.1 ha with e' | e'
          · omega
          · have := hp1 _ e'; omega
        · exact e
      rcases List.mem_cons.1 ha with e | e
      · subst e
        cases r with
        | nil => exact absurd hb' (by simp)
        | cons h r =>
          have hh : h ≤ b := by
            rcases List.mem_cons.1 hb' with e | e
            · omega
            · have := (List.pairwise_cons.1 hp2).1 _ e; omega
          have := gF_mono hh
          exact fix_none (by omega)
      · exact fix_two r k _ hp2 a b e hb' hab hg
theorem Dmg.none {v U : List Bk} {m k o : Nat} {ks : List Nat} {c : Bk} (h : Dmg v U m (k :: ks)) (hv : GoodV v) (h13 : v.length ≤ 1300) (ho : o < v.length) (hok : o ≠ k) (hog : gF o = gF k) (hc : ¬ c.l.drop 30 = chkP c.l o) : repR (bytesP (U.set o c)) = ([], [], 121) := by
  have hl : (U.set o c).length = v.length := by rw [List.length_set]; exact h.len
  obtain ⟨e0, e1⟩ := opE_bytes hv h13 hl
  have hk := h.lt k List.mem_cons_self
  have mk : k ∈ badP (U.set o c) := badP_iff.2 ⟨by omega, by rw [badB_congr (nth_setN (fun e => hok e.symm) c)]; exact hk.2.2⟩
  have mo : o ∈ badP (U.set o c) := badP_iff.2 ⟨by omega, badB_set (by rw [h.len]; exact ho) hc⟩
  have hn : fixG (-1) (U.set o c) (badP (U.set o c)) = Option.none := by
    rcases Nat.lt_or_gt_of_ne hok with q | q
    · exact fix_two _ _ _ (badP_sorted _) o k mo mk q (by rw [← hog]; exact gF_le o)
    · exact fix_two _ _ _ (badP_sorted _) k o mk mo q (by rw [hog]; exact gF_le k)
  unfold repR
  rw [if_neg (by omega), e1, hn]
theorem Dmg.first {v U : List Bk} {m k o : Nat} {ks : List Nat} (h : Dmg v U m (k :: ks)) (ho : o < v.length) (hok : o ≠ k) (hog : gF o = gF k) : nth U o = nth v o := by
  refine h.ok o ho fun hm => ?_
  rcases List.mem_cons.1 hm with e | e
  · exact hok e
  · have h9 := (List.pairwise_cons.1 h.pw).1 _ e
    have := gF_le k
    omega
/-! ### the law's own parts -/
theorem set_self {U : List Bk} {k : Nat} (h : k < U.length) : U.set k (nth U k) = U := by
  refine list_ext (List.length_set) fun i hi => ?_
  by_cases e : i = k
  · subst e; rw [nth_setE h]
  · rw [nth_setN e]
theorem u8_back {n : Int} (h : 0 ≤ n ∧ n ≤ 255) : ((UInt8.ofNat n.toNat).toNat : Int) = n := by
  rw [u8_ofN (by omega)]; omega

end Go.Proofs.YtjdcpnaocjddoaaGreatDoor
namespace Go.Proofs.YtjdcpnaocjddoaaGreatDoor
open Go Go.RowKit
/-! ### a decoder's results -/
def okD (i len : Nat) (R : Int × Int × Int) : Prop := R.2.2 = 0 → (0 ≤ R.1 ∧ R.1 ≤ 1000000000) ∧ (i : Int) < R.2.1 ∧ R.2.1 ≤ (i : Int) + (len : Int)
theorem decG_ok : ∀ (l : List UInt8) (z : Nat) (lf n : Int) (i : Nat), (0 ≤ lf → 1 ≤ lf ∧ 1 ≤ n) → okD i l.length (decG z lf n i l)
  | [], _, _, _, _, _ => fun e => by cases e
  | c :: r, z, lf, n, i, h => by
    have ih : ∀ (z : Nat) (lf n : Int), (0 ≤ lf → 1 ≤ lf ∧ 1 ≤ n) → okD i (r.length + 1) (decG z lf n (i + 1) r) := fun z lf n h e => by
      have := decG_ok r z lf n (i + 1) h e
      omega
    rw [List.length_cons]
    unfold decG
    split
    · intro e; cases e
    · rename_i hc
      split
      · split
        · intro e; cases e
        · exact ih _ _ _ h
      · split
        · rename_i h1
          split
          · intro _
            exact ⟨⟨Int.le_refl 0, (by show (0 : Int) ≤ 1000000000; decide)⟩, (by show (i : Int) < (i : Int) + 1; omega), (by show (i : Int) + 1 ≤ (i : Int) + ((r.length + 1 : Nat) : Int); omega)⟩
          · exact ih z z 1 (fun _ => ⟨by omega, by decide⟩)
        · rename_i h1
          have hb : 0 ≤ (c.toNat : Int) - 48 := by
            by_cases q : c = 48
            · subst q; decide
            · by_cases q2 : c = 49
              · subst q2; decide
              · exact absurd ⟨q, q2⟩ hc
          have h2 := h (by omega)
          split
          · split
            · intro e; cases e
            · intro _
              exact ⟨⟨(by show 0 ≤ 2 * n + ((c.toNat : Int) - 48) - 1; omega), (by show 2 * n + ((c.toNat : Int) - 48) - 1 ≤ 1000000000; omega)⟩, (by show (i : Int) < (i : Int) + 1; omega), (by show (i : Int) + 1 ≤ (i : Int) + ((r.length + 1 : Nat) : Int); omega)⟩
          · exact ih z (lf - 1) _ (fun _ => ⟨by omega, by omega⟩)
theorem decP_ok {l : List UInt8} (h : (decP l).2.2 = 0) : (0 ≤ (decP l).1 ∧ (decP l).1 ≤ 1000000000) ∧ 0 < (decP l).2.1 ∧ (decP l).2.1 ≤ (l.length : Int) := by
  have := decG_ok l 0 (-1) 0 0 (fun h => absurd h (by decide)) h
  unfold decP
  omega
/-! ### a log is parsed -/
/-- what is left of a tape, and whether it broke off -/
structure Scr where
  r : List UInt8
  b : Bool
instance : Inhabited Scr := ⟨⟨[], false⟩⟩
def cdV (s : Scr) : Int := if (decP s.r).2.2 = 0 then (decP s.r).1 else 0
def cdS (s : Scr) : Scr := if (decP s.r).2.2 = 0 then ⟨s.r.drop (decP s.r).2.1.toNat, s.b⟩ else ⟨s.r, true⟩
def d48 (c : UInt8) : Int := (c.toNat : Int) - 48
def knd (s : Scr) : Int := 1 + 2 * d48 (nth s.r 0) + d48 (nth s.r 1)
def s2_ (s : Scr) : Scr := ⟨s.r.drop 2, s.b⟩
/-- an entry is parsed, m minutes being said -/
def entV (s : Scr) (m : Int) : Ent :=
  if s.r.length < 2 then ⟨0, 0, 0, 0, 0, 0⟩
  else if plK (knd s) then ⟨m + cdV (s2_ s), knd s, 1 + cdV (cdS (s2_ s)), cdV (cdS (cdS (s2_ s))), 0, 0⟩
  else ⟨m + cdV (s2_ s), knd s, 1 + cdV (cdS (s2_ s)), 0, 1 + cdV (cdS (cdS (s2_ s))), 1 + cdV (cdS (cdS (cdS (s2_ s))))⟩
def entS (s : Scr) : Scr :=
  if s.r.length < 2 then ⟨s.r, true⟩
  else if plK (knd s) then cdS (cdS (cdS (s2_ s))) else cdS (cdS (cdS (cdS (s2_ s))))
def parN : Nat → Scr → Int → List Ent → List Ent × Scr
  | 0, s, _, E => (E, s)
  | n + 1, s, m, E => if s.b = true then (E, s) else parN n (entS s) (entV s m).m (E ++ [entV s m])
/-- the entries of a tape, and whether it broke off -/
def parP (t : List UInt8) : List Ent × Scr := parN (cdV ⟨t, false⟩ + 1).toNat (cdS ⟨t, false⟩) 0 []
def bitL (l : List UInt8) : Prop := ∀ c ∈ l, c = 48 ∨ c = 49
theorem cdV_r (s : Scr) : 0 ≤ cdV s ∧ cdV s ≤ 1000000000 := by
  unfold cdV
  split
  · rename_i h; exact (decP_ok h).1
  · decide
theorem cdS_r (s : Scr) : (cdS s).r.length ≤ s.r.length ∧ ((cdS s).b = false → s.b = false) ∧ (bitL s.r → bitL (cdS s).r) := by
  unfold cdS
  split
  · exact ⟨by show (s.r.drop _).length ≤ _; rw [List.length_drop]; omega, fun h => h, fun h c hc => h c (List.mem_of_mem_drop hc)⟩
  · exact ⟨Nat.le_refl _, (fun h => by cases h), fun h => h⟩
theorem bit_nth {l : List UInt8} (h : bitL l) {i : Nat} (hi : i < l.length) : 0 ≤ d48 (nth l i) ∧ d48 (nth l i) ≤ 1 := by
  have h9 : nth l i = 48 ∨ nth l i = 49 := h _ (nth_mem hi)
  unfold d48
  rcases h9 with e | e <;> rw [e] <;> decide
theorem entS_r (s : Scr) : (entS s).r.length ≤ s.r.length ∧ (2 ≤ s.r.length → (entS s).r.length + 2 ≤ s.r.length) ∧ (s.r.length < 2 → (entS s).b = true) ∧ (bitL s.r → bitL (entS s).r) := by
  unfold entS
  split
  · rename_i h; exact ⟨Nat.le_refl _, fun h2 => by omega, fun _ => rfl, fun h => h⟩
  · rename_i h
    have e0 : (s2_ s).r.length + 2 = s.r.length := by show (s.r.drop 2).length + 2 = _; rw [List.length_drop]; omega
    have b0 : bitL s.r → bitL (s2_ s).r := fun h c hc => h c (List.mem_of_mem_drop hc)
    have h1 := cdS_r (s2_ s)
    have h2 := cdS_r (cdS (s2_ s))
    have h3 := cdS_r (cdS (cdS (s2_ s)))
    have h4 := cdS_r (cdS (cdS (cdS (s2_ s))))
    split
    · exact ⟨by omega, fun _ => by omega, fun q => absurd q h, fun q => h3.2.2 (h2.2.2 (h1.2.2 (b0 q)))⟩
    · exact ⟨by omega, fun _ => by omega, fun q => absurd q h, fun q => h4.2.2 (h3.2.2 (h2.2.2 (h1.2.2 (b0 q))))⟩
theorem entV_m (s : Scr) (m : Int) (h0 : 0 ≤ m) : 0 ≤ (entV s m).m ∧ (entV s m).m ≤ m + 1000000000 := by
  have := cdV_r (s2_ s)
  unfold entV
  split
  · exact ⟨Int.le_refl 0, by show (0 : Int) ≤ _; omega⟩
  · split
    · exact ⟨by show 0 ≤ m + _; omega, by show m + _ ≤ m + _; omega⟩
    · exact ⟨by show 0 ≤ m + _; omega, by show m + _ ≤ m + _; omega⟩
theorem parN_stop {n : Nat} {s : Scr} {m : Int} {E : List Ent} (h : s.b = true) : parN n s m E = (E, s) := by
  cases n with
  | zero => rfl
  | succ n => show (if _ then _ else _) = _; rw [if_pos h]
theorem parN_step {n : Nat} {s : Scr} {m : Int} {E : List Ent} (h : s.b = false) : parN (n + 1) s m E = parN n (entS s) (entV s m).m (E ++ [entV s m]) := by
  show (if _ then _ else _) = _
  rw [if_neg (by rw [h]; decide)]
/-- the digits of a log's data -/
def tapG (v : List Bk) (n k : Nat) : List UInt8 := if k = gL n k then [] else digs ((nth v k).l.take 30)
def tapB (v : List Bk) : Nat → List UInt8
  | 0 => []
  | k + 1 => tapB v k ++ tapG v v.length k
theorem digs_bits (l : List UInt8) : bitL (digs l) := fun c hc => by
  unfold digs at hc
  obtain ⟨x, _, hx⟩ := List.mem_flatMap.1 hc
  exact putP_bits _ _ c hx
theorem tapG_len (v : List Bk) (n k : Nat) : (tapG v n k).length ≤ 240 ∧ bitL (tapG v n k) := by
  unfold tapG
  split
  · exact ⟨by decide, fun c hc => by cases hc⟩
  · exact ⟨by rw [digs_len, blk30]; decide, digs_bits _⟩
theorem tapB_len (v : List Bk) : ∀ k, (tapB v k).length ≤ 240 * k ∧ bitL (tapB v k)
  | 0 => ⟨by show (0 : Nat) ≤ 0; exact Nat.le_refl _, fun c hc => by cases hc⟩
  | k + 1 => by
    have h1 := tapB_len v k
    have h2 := tapG_len v v.length k
    refine ⟨?_, fun c hc => ?_⟩
    · show (tapB v k ++ tapG v v.length k).length ≤ _
      rw [List.length_append]; omega
    · rcases List.mem_append.1 hc with h | h
      · exact h1.2 c h
      · exact h2.2 c h
/-- what the readers return -/
def readR (b : List UInt8) : List Ent × Int × Int :=
  if opE b ≠ 0 then ([], 0, opE b)
  else match badP (opP b) with
    | k :: _ => ([], (k : Int), 121)
    | [] => if (parP (tapB (opP b) (opP b).length)).2.b = true ∨ chkE (parP (tapB (opP b) (opP b).length)).1 ≠ 0 ∨ writeP (parP (tapB (opP b) (opP b).length)).1 ≠ opP b then ([], 0, 4)
      else ((parP (tapB (opP b) (opP b).length)).1, 0, 0)
/-- the first unsound block -/
theorem badP_head {v : List Bk} {k : Nat} (hk : k < v.length) (hb : badB v k = true) (hn : ∀ i, i < k → badB v i = false) : ∃ r, badP v = k :: r := by
  have h1 : (List.range k).filter (badB v) = [] := List.filter_eq_nil_iff.2 fun i hi => by rw [hn i (List.mem_range.1 hi)]; decide
  obtain ⟨d, hd⟩ : ∃ d, v.length = (k + 1) + d := ⟨v.length - (k + 1), by omega⟩
  refine ⟨((List.range d).map (fun x => k + 1 + x)).filter (badB v), ?_⟩
  unfold badP
  rw [hd, List.range_add, List.filter_append, filter_succ, h1, if_pos hb]; rfl
theorem badP_nil {v : List Bk} (hn : ∀ i, i < v.length → badB v i = false) : badP v = [] := by
  unfold badP
  exact List.filter_eq_nil_iff.2 fun i hi => by rw [hn i (List.mem_range.1 hi)]; decide

end Go.Proofs.YtjdcpnaocjddoaaGreatDoor
