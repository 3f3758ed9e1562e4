/-
  Part 16 of the proof: contracts and plain laws. Conditions: none.
-/
import Derived.Test.YtclinbbghnebaaaGreatCK15
namespace Go.Proofs.YtclinbbghnebaaaGreat
open Go Go.RowKit Go.Proofs.Tryz
set_option maxRecDepth 10000

/-- The legs of these numbers. -/
def pickL (xs : List Leg) (l : List Int) : List Leg := l.map fun i => nth xs i.toNat
/-- There is a safe assignment. -/
def sfP (r : Rul) (xs : List Leg) (ms : List Mb) : Bool := (asgP r xs ms 0 0).1.isSome
/-- All choices of fewer legs are safe. -/
def fewOk (r : Rul) (xs : List Leg) (ms : List Mb) (many : Nat) : Prop := ∀ m, m < many → ∀ l ∈ chP xs.length m 0, sfP r (pickL xs l) ms = true
def ShortR (r : Rul) (ss : List Slr) (xs : List Leg) (l : List Int) (e : Int) : Prop :=
  (openE r ss xs ≠ 0 ∧ e = openE r ss xs ∧ l = []) ∨ (openE r ss xs = 0 ∧ sfP r xs (ss.map boardP) = true ∧ l = [] ∧ e = 9) ∨
  (openE r ss xs = 0 ∧ sfP r xs (ss.map boardP) = false ∧ e = 0 ∧ ∃ many pre post, many ≤ xs.length ∧ fewOk r xs (ss.map boardP) many ∧ chP xs.length many 0 = pre ++ l :: post ∧ (∀ q ∈ pre, sfP r (pickL xs q) (ss.map boardP) = true) ∧ sfP r (pickL xs l) (ss.map boardP) = false) ∨
  (openE r ss xs = 0 ∧ sfP r xs (ss.map boardP) = false ∧ fewOk r xs (ss.map boardP) (xs.length + 1) ∧ l = [] ∧ e = 9)
/-- Short's consumer of choices. -/
structure ShC (F : Nat → Prop) (r : Rul) (xs : List Leg) (pb c : Nat) (am : Option Addr) (mb cm n : Nat) (ms : List HM) (t6 t7 : Nat) (wR : World) (pre : List (List Int)) (W : World) : Prop where
  cr : CrewM r pb c am mb cm n 20 ms W
  ok : ∀ q ∈ pre, sfP r (pickL xs q) (ms.map HM.mb) = true
  b6 : Blk W t6 38 [.slice none 0 0]
  b7 : Blk W t7 39 [.int .i64 0]
  hu : Upd (TP F pb wR) wR W
structure ShF (F : Nat → Prop) (r : Rul) (xs : List Leg) (pb mb : Nat) (ms : List HM) (t6 t7 : Nat) (wR : World) (p : List (List Int) × List Int) (W : World) : Prop where
  ok : ∀ q ∈ p.1, sfP r (pickL xs q) (ms.map HM.mb) = true
  no : sfP r (pickL xs p.2) (ms.map HM.mb) = false
  b6 : ∃ ao g cp, Blk W t6 38 [.slice ao p.2.length cp] ∧ Acc encI 1 3 pb W ao g cp p.2
  b7 : Blk W t7 39 [.int .i64 0]
  hu : Upd (TP F pb wR) wR W
theorem TP.below {mb pb b t6 t7 l : Nat} {w : World} (hb : b < pb) (h6 : b ≠ t6) (h7 : b ≠ t7) (hl : b ≠ l) : ¬ TP (FX (FX (FX (MB mb pb) t6) t7) l) pb w b := by
  intro h
  rcases h with h | ⟨h, _⟩
  · rcases h with ((h | h) | h) | h
    · have := h.1; have := h.2; omega
    · exact h6 h
    · exact h7 h
    · exact hl h
  · omega
theorem sh_cells {r : Rul} {pb c : Nat} {am : Option Addr} {mb cm n B : Nat} {ms : List HM} {t6 t7 b : Nat} {w : World} {t t' : TypeId} {cs cs' : List Value} (_hb : 0 < b) (h6 : Blk w t6 t cs) (h7 : Blk w t7 t' cs') (hc : CrewM r pb c am mb cm n B ms w) : ∀ k, b ≤ k → k < w.heap.size → TP (FX (FX (MB mb pb) t6) t7) pb w k → ∃ cur t f, w.heap[k]? = some (.cells cur t f) := fun k _ hk h => by
  rcases h with h | ⟨_, cs, h⟩
  · rcases h with (h | h) | h
    · obtain ⟨cs, h2⟩ := hc.row.row.acc.blkT (h.1 ▸ h.2)
      rw [h.1]; exact ⟨_, _, _, h2⟩
    · rw [show k = t6 from h]; exact ⟨_, _, _, h6⟩
    · rw [show k = t7 from h]; exact ⟨_, _, _, h7⟩
  · exact ⟨_, _, _, h⟩
theorem sh_cellsM {r : Rul} {pb c : Nat} {am : Option Addr} {mb cm n B : Nat} {ms : List HM} {b : Nat} {w : World} (hc : CrewM r pb c am mb cm n B ms w) : ∀ k, b ≤ k → k < w.heap.size → TP (MB mb pb) pb w k → ∃ cur t f, w.heap[k]? = some (.cells cur t f) := fun k _ hk h => by
  rcases h with h | ⟨_, cs, h⟩
  · obtain ⟨cs, h2⟩ := hc.row.row.acc.blkT (h.1 ▸ h.2)
    rw [h.1]; exact ⟨_, _, _, h2⟩
  · exact ⟨_, _, _, h⟩
theorem TP.belowM {mb pb b : Nat} {w : World} (hb : b < pb) : ¬ TP (MB mb pb) pb w b := by
  intro h
  rcases h with h | ⟨h, _⟩
  · have := h.1; have := h.2; omega
  · omega
theorem TP.below9 {mb pb b t6 t7 : Nat} {w : World} (hb : b < pb) (h6 : b ≠ t6) (h7 : b ≠ t7) : ¬ TP (FX (FX (MB mb pb) t6) t7) pb w b := by
  intro h
  rcases h with h | ⟨h, _⟩
  · rcases h with (h | h) | h
    · have := h.1; have := h.2; omega
    · exact h6 h
    · exact h7 h
  · omega
theorem CrewM.bent {r : Rul} {pb c : Nat} {am : Option Addr} {mb cm n B : Nat} {ms : List HM} {w w' : World} {S : Nat → Prop} {b : Nat} (h : CrewM r pb c am mb cm n B ms w) (hb : pb ≤ b) (u : Upd S w w') (hS : ∀ i, S i → b ≤ i ∧ ∀ c t f, w.heap[i]? ≠ some (.cells c t f)) : CrewM r pb c am mb cm n B ms w' :=
  ⟨h.hr, RowC.bent hb _ _ _ _ h.row u hS, h.hn, h.hB, ⟨h.hpb.1, Nat.le_trans h.hpb.2 u.size⟩, h.hc⟩
theorem ShC.bent {F : Nat → Prop} {r : Rul} {xs : List Leg} {pb c : Nat} {am : Option Addr} {mb cm n : Nat} {ms : List HM} {t6 t7 B : Nat} {wR : World} (hb : pb ≤ B) (hw : wR.heap.size ≤ B) : Bent B (ShC F r xs pb c am mb cm n ms t6 t7 wR) := fun pre W W' S h u hS =>
  ⟨h.cr.bent hb u hS, h.ok, h.b6.keep u (fun q => (hS _ q).2 _ _ _ h.b6), h.b7.keep u (fun q => (hS _ q).2 _ _ _ h.b7), h.hu.next u (fun i hi q => by have := (hS i q).1; omega)⟩
theorem ShF.bent {F : Nat → Prop} {r : Rul} {xs : List Leg} {pb mb : Nat} {ms : List HM} {t6 t7 B : Nat} {wR : World} (hw : wR.heap.size ≤ B) : Bent B (ShF F r xs pb mb ms t6 t7 wR) := fun p W W' S h u hS => by
  obtain ⟨ao, g, cp, h1, h2⟩ := h.b6
  refine ⟨h.ok, h.no, ⟨ao, g, cp, h1.keep u (fun q => (hS _ q).2 _ _ _ h1), h2.keep u (fun hb q => ?_)⟩, h.b7.keep u (fun q => (hS _ q).2 _ _ _ h.b7), h.hu.next u (fun i hi q => by have := (hS i q).1; omega)⟩
  rcases h2.at_ with ⟨_, _, _, h3⟩ | ⟨_, _, cur, h3, _⟩
  · omega
  · exact (hS _ q).2 _ _ _ h3
theorem ShC.ext {F : Nat → Prop} {r : Rul} {xs : List Leg} {pb c : Nat} {am : Option Addr} {mb cm n : Nat} {ms : List HM} {t6 t7 : Nat} {wR : World} (pre : List (List Int)) (W W' : World) (h : ShC F r xs pb c am mb cm n ms t6 t7 wR pre W) (u : Ext W W') : ShC F r xs pb c am mb cm n ms t6 t7 wR pre W' := ⟨h.cr.ext u, h.ok, h.b6.kx u, h.b7.kx u, h.hu.nx u⟩
theorem ShF.ext {F : Nat → Prop} {r : Rul} {xs : List Leg} {pb mb : Nat} {ms : List HM} {t6 t7 : Nat} {wR : World} (p : List (List Int) × List Int) (W W' : World) (h : ShF F r xs pb mb ms t6 t7 wR p W) (u : Ext W W') : ShF F r xs pb mb ms t6 t7 wR p W' := by
  obtain ⟨ao, g, cp, h1, h2⟩ := h.b6
  exact ⟨h.ok, h.no, ⟨ao, g, cp, h1.kx u, h2.keep u (fun _ q => q)⟩, h.b7.kx u, h.hu.nx u⟩
set_option maxHeartbeats 4000000 in
theorem Short_c (r : Rul) (hs : List HS) (al : Option Addr) (bl ol cl : Nat) (xs : List Leg) (ax : Option Addr) (bx ox cx : Nat) (w0 : World) (hl : Sl encHS 4 w0 al bl ol hs) (hll : hs.length ≤ 1000000) (hsm : ∀ h ∈ hs, SlrM w0 h) (hxs : Sl encLeg 7 w0 ax bx ox xs) (hxl : xs.length ≤ 1000000) (hcx : xs.length ≤ cx) (hpos : 0 < w0.heap.size) :
    CallsV Tryz.prog 20 [.agg #[.int .i64 r.rest, .int .i64 r.span, .int .i64 r.work, .int .i64 r.week, .int .i64 r.ww], .slice al hs.length cl, .slice ax xs.length cx] w0 (fun v w' => (∃ ao g cp l e, v = .tuple #[.slice ao (List.length l) cp, .int .i64 e] ∧ Sl encI 1 w' ao g 0 l ∧ ShortR r (hs.map HS.slr) xs l e) ∧ Ext w0 w') := by
 have Y0 := Sc.mk (Upd.refl (fun _ => False) w0)
 refine f_enterM (N := 61) func20 rfl rfl rfl (q_of ?_)
 refine go ?_
 refine x_b fun bk2 w3 ebk2 sbk2 B4 u5 => ?_
 try have Y6 := Sc.mk (Y0.u.nx u5)
 refine x_b fun bk7 w8 ebk7 sbk7 B9 u10 => ?_
 try have Y11 := Sc.mk (Y6.u.nx u10)
 refine x_n fun bk12 w13 ebk12 sbk12 B14 u15 => ?_
 try have Y16 := Sc.mk (Y11.u.nx u15)
 refine x_n fun bk17 w18 ebk17 sbk17 B19 u20 => ?_
 try have Y21 := Sc.mk (Y16.u.nx u20)
 refine go ?_
 have D23 := ((((hxs.keep u5 (fun _ h => h)).keep u10 (fun _ h => h)).keep u15 (fun _ h => h)).keep u20 (fun _ h => h))
 refine x_c func56 rfl rfl (open_cK r hs al bl ol cl xs ax bx ox cx _ (hl.keep Y21.u (fun _ h => h)) hll (fun h hh => (hsm h hh).ext Y21.u) D23 hxl (by omega)) ?_
 rintro _ w25 ⟨⟨po, _, rfl, rfl, hpo⟩, u26⟩ zu26
 try have Y28 := Sc.mk (Y21.u.nx u26)
 have hopw : Sc (fun _ => False) w0 w25 := ⟨Y28.u⟩
 have hopu : Sc (fun _ => False) w18 w25 := ⟨u26⟩
 refine go ?_
 refine x_n fun bk29 w30 ebk29 sbk29 B31 u32 => ?_
 try have Y33 := Sc.mk (Y28.u.nx u32)
 refine x_s fun w34 sw34 B36 u35 => ?_
 try have Y37 := Sc.mk (Y33.u.next u35 (fun i hi h => by omega))
 refine go ?_
 refine q_p (fun g22 => ?_) fun g22 => ?_
 ·
  refine go ?_
  have B41 := ((((B14.kx u20).kx u26).kx u32).keep u35 (by omega))
  refine x_s fun w42 sw42 B44 u43 => ?_
  try have Y45 := Sc.mk (Y37.u.next u43 (fun i hi h => by omega))
  have B46 := ((((B19.kx u26).kx u32).keep u35 (by omega)).keep u43 (by omega))
  refine x_s fun w47 sw47 B49 u48 => ?_
  try have Y50 := Sc.mk (Y45.u.next u48 (fun i hi h => by omega))
  refine go ?_
  have B51 := (B44.keep u48 (by omega))
  have D54 := ((((((((((show Marks w0.heap.size [] w0 from trivial).keepB u5 (CellsB.of (CellsIn.none _))).keepB u10 (CellsB.of (CellsIn.none _))).keepB u15 (CellsB.of (CellsIn.none _))).keepB u20 (CellsB.of (CellsIn.none _))).keepB u26 (CellsB.of (CellsIn.none _))).keepB u32 (CellsB.of (CellsIn.none _))).keepB u35 (CellsB.of (B31).cellsIn)).keepB u43 (CellsB.of (B41).cellsIn)).keepB u48 (CellsB.of (B46).cellsIn))
  have hmkE := D54
  refine f_retMc2 (v1 := .slice none 0 0) (v2 := .int .i64 (openE r (hs.map HS.slr) xs)) results20 (.cell D54 rfl isAgg38 B51 rfl) (.cell D54 rfl isAgg39 B49 rfl) D54 (fun w52 u53 omw52 => ?_)
  have zu53 := u53.size
  try have Y55 := Sc.mk (Y50.u.next u53 (fun i hi (h : w0.heap.size ≤ i) => show False by first | omega | assumption | exact TP.back (Sc.u (by assumption)) hi h | exact TP.back (Sc.u (by assumption)) hi h.fx.fx | exact h.elim (fun h => by have := h.2; omega) (fun h => by have := h.1; omega) | exact h.elim (fun h => h.elim (fun h => h.elim (fun h => by have := h.1; have := h.2; omega) (fun h => by omega)) (fun h => by omega)) (fun h => by have := h.1; omega) | exact Or.inl (Or.inl (Or.inr h)) | exact Or.inl (Or.inr h)))
  exact ⟨⟨none, 0, 0, [], _, rfl, Sl.nil _ _ _ _ _ _, .inl ⟨g22, rfl, rfl⟩⟩, Y55.u⟩
 have h0 : openE r (hs.map HS.slr) xs = 0 := Decidable.not_not.1 g22
 obtain ⟨cO, am, mb, cm, ms, hpe, hcg, hcb, hrow, hmm⟩ := hpo h0
 have B56 : Blk w34 bk29 159 [.pointer (some ⟨cO, 0, none⟩)] := by
   have e : ([.pointer po] : List Value) = [.pointer (some ⟨cO, 0, none⟩)] := (by rw [hpe])
   rw [← e]; exact B36
 have hcr := CrewM.open h0 (by omega) hopu.u hcg hcb hrow hmm
 obtain ⟨_, h6, _, h8, h9⟩ := openE_ok h0
 have hma : ms.map HM.mb = (hs.map HS.slr).map boardP := by rw [hmm, List.map_map]; rfl
 have lmb := hrow.acc.lt
 have hcrW := (hcr.ext (((Upd.refl (fun _ => False) _).nx u32).next u35 (fun i hi (h : i = bk29) => show False by first | omega | assumption)))
 have h8m : ¬ MB mb w18.heap.size bk29 := fun q => hcrW.row.row.acc.neBlk B56 (by decide) (q.1 ▸ q.2) q.1.symm
 refine go ?_
 have hcS_w34 := (hcr.ext (((Upd.refl (fun _ => False) _).nx u32).next u35 (fun i hi (h : i = bk29) => show False by first | omega | assumption)))
 have B58 := (((((B9.kx u15).kx u20).kx u26).kx u32).keep u35 (by omega))
 have nTb59 : ¬ TP (MB mb w18.heap.size) w18.heap.size w34 bk7 := TP.belowM (by omega)
 have B60 := ((((B14.kx u20).kx u26).kx u32).keep u35 (by omega))
 have nTb61 : ¬ TP (MB mb w18.heap.size) w18.heap.size w34 bk12 := TP.belowM (by omega)
 have B62 := (((B19.kx u26).kx u32).keep u35 (by omega))
 have nTb63 : ¬ TP (MB mb w18.heap.size) w18.heap.size w34 bk17 := TP.belowM (by omega)
 have nTb64 : ¬ TP (MB mb w18.heap.size) w18.heap.size w34 bk29 := TP.not (fun h => h8m h) B56 (by decide)
 have D65 := (((D23.keep u26 (fun _ h => h)).keep u32 (fun _ h => h)).keep u35 (fun h9 => by have h7 := hxs.lt h9; show ¬ (bx = bk29); first | omega | exact TP.belowM (by omega) | exact hnx h9 | exact hnx2 h9))
 refine t_call own58 rfl rfl rfl rfl (safe_c r w18.heap.size cO am mb cm ms.length 20 ms xs ax bx ox cx _ (hcr.ext (((Upd.refl (fun _ => False) _).nx u32).next u35 (fun i hi (h : i = bk29) => show False by first | omega | assumption))) h9 (by omega) (by omega) D65 hcx (fun hp hb => by have := hxs.lt hp; omega)) (fun v66 w67 r69 => ?_)
 obtain ⟨rfl, hrowS, u68⟩ := r69
 have zu68 := u68.size
 try have Y70 := Sc.mk (Y37.u.next u68 (fun i hi (h : TP (MB mb w18.heap.size) w18.heap.size w34 i) => show False by first | omega | assumption | exact TP.back (Sc.u (by assumption)) hi h | exact TP.back (Sc.u (by assumption)) hi h.fx.fx | exact h.elim (fun h => by have := h.2; omega) (fun h => by have := h.1; omega) | exact h.elim (fun h => h.elim (fun h => h.elim (fun h => by have := h.1; have := h.2; omega) (fun h => by omega)) (fun h => by omega)) (fun h => by have := h.1; omega) | exact Or.inl (Or.inl (Or.inr h)) | exact Or.inl (Or.inr h)))
 have hcr71 : CrewM r w18.heap.size cO am mb cm ms.length 20 ms w67 := ⟨hcr.hr, hrowS, hcr.hn, hcr.hB, ⟨hcr.hpb.1, by omega⟩, hcr.hc⟩
 refine go ?_
 refine q_b (fun g26 => ?_) fun g26 => ?_
 ·
  have hsf : sfP r xs (ms.map HM.mb) = true := g26
  refine go ?_
  have B73 := (B60.keep u68 (show ¬ (TP (MB mb w18.heap.size) w18.heap.size w34 bk12) by first | omega | assumption))
  refine x_s fun w74 sw74 B76 u75 => ?_
  try have Y77 := Sc.mk (Y70.u.next u75 (fun i hi h => by omega))
  have B78 := ((B62.keep u68 (show ¬ (TP (MB mb w18.heap.size) w18.heap.size w34 bk17) by first | omega | assumption)).keep u75 (by omega))
  refine x_s fun w79 sw79 B81 u80 => ?_
  try have Y82 := Sc.mk (Y77.u.next u80 (fun i hi h => by omega))
  refine go ?_
  have B83 := (B76.keep u80 (by omega))
  have D86 := (((((((((((show Marks w0.heap.size [] w0 from trivial).keepB u5 (CellsB.of (CellsIn.none _))).keepB u10 (CellsB.of (CellsIn.none _))).keepB u15 (CellsB.of (CellsIn.none _))).keepB u20 (CellsB.of (CellsIn.none _))).keepB u26 (CellsB.of (CellsIn.none _))).keepB u32 (CellsB.of (CellsIn.none _))).keepB u35 (CellsB.of (B31).cellsIn)).keepB u68 (sh_cellsM hcS_w34)).keepB u75 (CellsB.of (B73).cellsIn)).keepB u80 (CellsB.of (B78).cellsIn))
  have hmkE := D86
  refine f_retMc2 (v1 := .slice none 0 0) (v2 := .int .i64 9) results20 (.cell D86 rfl isAgg38 B83 rfl) (.cell D86 rfl isAgg39 B81 rfl) D86 (fun w84 u85 omw84 => ?_)
  have zu85 := u85.size
  try have Y87 := Sc.mk (Y82.u.next u85 (fun i hi (h : w0.heap.size ≤ i) => show False by first | omega | assumption | exact TP.back (Sc.u (by assumption)) hi h | exact TP.back (Sc.u (by assumption)) hi h.fx.fx | exact h.elim (fun h => by have := h.2; omega) (fun h => by have := h.1; omega) | exact h.elim (fun h => h.elim (fun h => h.elim (fun h => by have := h.1; have := h.2; omega) (fun h => by omega)) (fun h => by omega)) (fun h => by have := h.1; omega) | exact Or.inl (Or.inl (Or.inr h)) | exact Or.inl (Or.inr h)))
  exact ⟨⟨none, 0, 0, [], _, rfl, Sl.nil _ _ _ _ _ _, .inr (.inl ⟨h0, by rw [← hma]; exact hsf, rfl, rfl⟩)⟩, Y87.u⟩
 have hsf : sfP r xs (ms.map HM.mb) = false := g26
 refine go ?_
 have B90 := (B58.keep u68 (show ¬ (TP (MB mb w18.heap.size) w18.heap.size w34 bk7) by first | omega | assumption))
 have nTb91 : ¬ TP (FX (FX (MB mb w18.heap.size) bk12) bk17) w18.heap.size w67 bk7 := TP.below9 (by omega) (by omega) (by omega)
 have B92 := (B56.keep u68 (show ¬ (TP (MB mb w18.heap.size) w18.heap.size w34 bk29) by first | omega | assumption))
 have nTb93 : ¬ TP (FX (FX (MB mb w18.heap.size) bk12) bk17) w18.heap.size w67 bk29 := TP.not (fun h => h.elim (fun h => h.elim h8m (fun e => by omega)) (fun e => by omega)) B92 (by decide)
 have hnx : 0 < xs.length → ¬ TP (FX (FX (MB mb w18.heap.size) bk12) bk17) w18.heap.size w67 bx := fun h => by have := hxs.lt h; exact TP.below9 (by omega) (by omega) (by omega)
 have B94 := (B60.keep u68 (show ¬ (TP (MB mb w18.heap.size) w18.heap.size w34 bk12) by first | omega | assumption))
 have B95 := (B62.keep u68 (show ¬ (TP (MB mb w18.heap.size) w18.heap.size w34 bk17) by first | omega | assumption))
 refine q_loopm (γ := Nat × List Deferred) (fun gg => [(5, .pointer (some ⟨bk7, 0, none⟩)), (6, .pointer (some ⟨bk12, 0, none⟩)), (7, .pointer (some ⟨bk17, 0, none⟩)), (8, .pointer (some ⟨bk29, 0, none⟩)), (32, .int .i64 ((xs.length : Int) + 1)), (33, .int .i64 (gg.1 : Int))]) (fun gg => gg.2) (fun gg w => Upd (fun i => TP (FX (FX (MB mb w18.heap.size) bk12) bk17) w18.heap.size w67 i) w67 w ∧ Blk w bk12 38 [.slice none 0 0] ∧ Blk w bk17 39 [.int .i64 0] ∧ (gg.1 ≤ xs.length + 1) ∧ (CrewM r w18.heap.size cO am mb cm ms.length 20 ms w) ∧ (fewOk r xs (ms.map HM.mb) gg.1) ∧ (Marks w0.heap.size gg.2 w)) (fun gg => xs.length + 1 - gg.1) (0, []) rfl ⟨rfl, rfl, rfl, rfl, rfl, rfl, trivial⟩ ⟨Upd.refl _ _, B94, B95, (Nat.zero_le _), hcr71, (fun m hm => absurd hm (Nat.not_lt_zero _)), trivial⟩ ?_
 intro gg w97 hW K96 hK96
 obtain ⟨many, dl⟩ := gg
 change WC _ _ _ _ _ _ [(5, .pointer (some ⟨bk7, 0, none⟩)), (6, .pointer (some ⟨bk12, 0, none⟩)), (7, .pointer (some ⟨bk17, 0, none⟩)), (8, .pointer (some ⟨bk29, 0, none⟩)), (32, .int .i64 ((xs.length : Int) + 1)), (33, .int .i64 (many : Int))] _
 change Upd (fun i => TP (FX (FX (MB mb w18.heap.size) bk12) bk17) w18.heap.size w67 i) w67 w97 ∧ Blk w97 bk12 38 [.slice none 0 0] ∧ Blk w97 bk17 39 [.int .i64 0] ∧ (many ≤ xs.length + 1) ∧ (CrewM r w18.heap.size cO am mb cm ms.length 20 ms w97) ∧ (fewOk r xs (ms.map HM.mb) many) ∧ (Marks w0.heap.size dl w97) at hW
 obtain ⟨u98, I99, I100, I101, I102, I103, I104⟩ := hW
 have zu98 := u98.size
 try have Y105 := Sc.mk (Y70.u.next u98 (fun i hi (h : TP (FX (FX (MB mb w18.heap.size) bk12) bk17) w18.heap.size w67 i) => show False by first | omega | assumption | exact TP.back (Sc.u (by assumption)) hi h | exact TP.back (Sc.u (by assumption)) hi h.fx.fx | exact h.elim (fun h => by have := h.2; omega) (fun h => by have := h.1; omega) | exact h.elim (fun h => h.elim (fun h => h.elim (fun h => by have := h.1; have := h.2; omega) (fun h => by omega)) (fun h => by omega)) (fun h => by have := h.1; omega) | exact Or.inl (Or.inl (Or.inr h)) | exact Or.inl (Or.inr h)))
 have hmy := I101; clear I101
 have hcrk := I102; clear I102
 have hfew := I103; clear I103
 have hmkl := I104; clear I104
 have lmbk := hcrk.row.row.acc.lt
 refine go ?_
 refine q_p (fun g34 => ?_) fun g34 => ?_
 ·
  refine go ?_
  refine x_c func59 rfl rfl (choices_c (xs.length : Int) (many : Int) 0 _) ?_
  rintro _ w112 ⟨⟨bT4, bT5, bT3, rfl, hT4, hT5, hT3, gT4, gT5, gT3⟩, u113⟩ zu113
  try have Y115 := Sc.mk (Y105.u.nx u113)
  refine go ?_
  have hPR : Sc (TP (FX (FX (MB mb w18.heap.size) bk12) bk17) w18.heap.size w67) w67 w112 := ⟨(u98.nx u113)⟩
  have B116 := ((B90.keep u98 (show ¬ (TP (FX (FX (MB mb w18.heap.size) bk12) bk17) w18.heap.size w67 bk7) by first | omega | assumption)).kx u113)
  have nTb117 : ¬ TP (FX (FX (FX (MB mb w18.heap.size) bk12) bk17) (w112.heap.size + 1)) w18.heap.size w112 bk7 := TP.below (by omega) (by omega) (by omega) (by omega)
  have B118 := ((B92.keep u98 (show ¬ (TP (FX (FX (MB mb w18.heap.size) bk12) bk17) w18.heap.size w67 bk29) by first | omega | assumption)).kx u113)
  have nTb119 : ¬ TP (FX (FX (FX (MB mb w18.heap.size) bk12) bk17) (w112.heap.size + 1)) w18.heap.size w112 bk29 := TP.not (fun h => h.elim (fun h => h.elim (fun h => h.elim h8m (fun e => by omega)) (fun e => by omega)) (fun e => by omega)) B118 (by decide)
  have nTb120 : ¬ TP (FX (FX (MB mb w18.heap.size) bk12) bk17) w18.heap.size w112 bk7 := TP.below9 (by omega) (by omega) (by omega)
  have nTb121 : ¬ TP (FX (FX (MB mb w18.heap.size) bk12) bk17) w18.heap.size w112 bk29 := TP.not (fun h => h.elim (fun h => h.elim h8m (fun e => by omega)) (fun e => by omega)) B118 (by decide)
  have B122 := (I99.kx u113)
  have B123 := (I100.kx u113)
  have hcrR := (hcrk.ext ((Upd.refl (fun _ => False) _).nx u113))
  have lmbR := hcrR.row.row.acc.lt
  have l6 := B122.lt
  have l7 := B123.lt
  have lT4 := hT4.lt
  have lT3 := hT3.lt
  have hnx2 : 0 < xs.length → ¬ TP (FX (FX (FX (MB mb w18.heap.size) bk12) bk17) (w112.heap.size + 1)) w18.heap.size w112 bx := fun h => by have := hxs.lt h; exact TP.below (by omega) (by omega) (by omega) (by omega)
  have hFi : ∀ i, (FX (FX (FX (MB mb w18.heap.size) bk12) bk17) (w112.heap.size + 1)) i → i < w112.heap.size + 2 := fun i h => h.elim (fun h => h.elim (fun h => h.elim (fun h => by have := h.1; omega) (fun e => by omega)) (fun e => by omega)) (fun e => by omega)
  have hF9 : ∀ i, (FX (FX (MB mb w18.heap.size) bk12) bk17) i → i < w112.heap.size := fun i h => h.elim (fun h => h.elim (fun h => by have := h.1; omega) (fun e => by omega)) (fun e => by omega)
  refine WC.weak [(5, .pointer (some ⟨bk7, 0, none⟩)), (6, .pointer (some ⟨bk12, 0, none⟩)), (7, .pointer (some ⟨bk17, 0, none⟩)), (8, .pointer (some ⟨bk29, 0, none⟩)), (32, .int .i64 ((xs.length : Int) + 1)), (33, .int .i64 (many : Int)), (39, .func (.func 125) #[] #[.pointer (some ⟨bT4, 0, none⟩), .pointer (some ⟨bT5, 0, none⟩), .pointer (some ⟨bT3, 0, none⟩)])] ⟨rfl, rfl, rfl, rfl, rfl, rfl, rfl, trivial⟩ (c_rangeL (γ := HC) (δ := Unit) (lb := [.pointer (some ⟨bT4, 0, none⟩), .pointer (some ⟨bT5, 0, none⟩), .pointer (some ⟨bT3, 0, none⟩)]) (enc := encHC) own125 rfl rfl (YC (FX (FX (FX (MB mb w18.heap.size) bk12) bk17) (w112.heap.size + 1)) w18.heap.size w112.heap.size xs.length many (ShC (FX (FX (FX (MB mb w18.heap.size) bk12) bk17) (w112.heap.size + 1)) r xs w18.heap.size cO am mb cm ms.length ms bk12 bk17 w112)) (ZC (FX (FX (FX (MB mb w18.heap.size) bk12) bk17) (w112.heap.size + 1)) w18.heap.size (ShC (FX (FX (FX (MB mb w18.heap.size) bk12) bk17) (w112.heap.size + 1)) r xs w18.heap.size cO am mb cm ms.length ms bk12 bk17 w112)) (FC (FX (FX (FX (MB mb w18.heap.size) bk12) bk17) (w112.heap.size + 1)) w18.heap.size (ShF (FX (FX (FX (MB mb w18.heap.size) bk12) bk17) (w112.heap.size + 1)) r xs w18.heap.size mb ms bk12 bk17 w112)) (EC (FX (FX (FX (MB mb w18.heap.size) bk12) bk17) (w112.heap.size + 1)) w18.heap.size w112 (ShC (FX (FX (FX (MB mb w18.heap.size) bk12) bk17) (w112.heap.size + 1)) r xs w18.heap.size cO am mb cm ms.length ms bk12 bk17 w112 (chP xs.length many 0))) (EC (FX (FX (FX (MB mb w18.heap.size) bk12) bk17) (w112.heap.size + 1)) w18.heap.size w112 (EndC (chP xs.length many 0) (ShF (FX (FX (FX (MB mb w18.heap.size) bk12) bk17) (w112.heap.size + 1)) r xs w18.heap.size mb ms bk12 bk17 w112))) (ZC.turned ((ShC.bent (B := (w112.heap.size + 1)) (by omega) (Nat.le_succ _)).turned (Nat.le_refl _)) (.inr rfl)) (FC.turned ((ShF.bent (B := (w112.heap.size + 1)) (Nat.le_succ _)).turned (Nat.le_refl _)) (.inr rfl)) (EC.turned (fun _ => ((ShC.bent (B := (w112.heap.size + 1)) (by omega) (Nat.le_succ _)).turned (Nat.le_refl _)) _) (.inr rfl)) (EC.turned (EndC.turned ((ShF.bent (B := (w112.heap.size + 1)) (Nat.le_succ _)).turned (Nat.le_refl _))) (.inr rfl)) ?_ (fun x d => [(5, .pointer (some ⟨bk7, 0, none⟩)), (6, .pointer (some ⟨bk12, 0, none⟩)), (7, .pointer (some ⟨bk17, 0, none⟩)), (8, .pointer (some ⟨bk29, 0, none⟩)), (11, .slice x.ao x.xs.length x.cap), (32, .int .i64 ((xs.length : Int) + 1)), (33, .int .i64 (many : Int))]) (fun x (d : Unit) W => YC (FX (FX (FX (MB mb w18.heap.size) bk12) bk17) (w112.heap.size + 1)) w18.heap.size w112.heap.size xs.length many (ShC (FX (FX (FX (MB mb w18.heap.size) bk12) bk17) (w112.heap.size + 1)) r xs w18.heap.size cO am mb cm ms.length ms bk12 bk17 w112) x W) (fun d x W W' h hl u => YC.turned ((ShC.bent (B := (w112.heap.size + 1)) (by omega) (Nat.le_succ _)).turned (Nat.le_refl _)) _ _ _ h hl u) ?_ ?_ ?_ ?_)
  ·
   intro l_ D_ R_ Rf_ W hD_ hl_ hsz hE1 hH_ hR_
   subst hD_ hl_
   refine (choices1_c w18.heap.size xs.length many (FX (FX (FX (MB mb w18.heap.size) bk12) bk17) (w112.heap.size + 1)) _ w112.heap.size (ShC (FX (FX (FX (MB mb w18.heap.size) bk12) bk17) (w112.heap.size + 1)) r xs w18.heap.size cO am mb cm ms.length ms bk12 bk17 w112) (ShF (FX (FX (FX (MB mb w18.heap.size) bk12) bk17) (w112.heap.size + 1)) r xs w18.heap.size mb ms bk12 bk17 w112) R_ Rf_ bT4 bT5 bT3 0 W ⟨fun p W W' h u => ShC.ext p W W' h u, fun p W W' h u => ShF.ext p W W' h u, ShC.bent (by omega) (by omega), ShF.bent (by omega), hH_, hT4.kx hE1, hT5.kx hE1, hT3.kx hE1, fun i h => by have := hFi i h; omega, (fun h => h.elim (fun h => h.elim (fun h => h.elim (fun h => by have := h.1; omega) (fun e => by omega)) (fun e => by omega)) (fun e => by omega)), (fun h => h.elim (fun h => h.elim (fun h => h.elim (fun h => by have := h.1; omega) (fun e => by omega)) (fun e => by omega)) (fun e => by omega)), .inr rfl, rfl, by omega, ⟨by omega, by omega⟩, by omega, by omega, by omega, ⟨hcrR.ext hE1, fun _ h => (by cases h), B122.kx hE1, B123.kx hE1, hE1.to⟩, hR_⟩).mono fun _ w9 h9 => ?_
   have h8 := (hE1.to (S := TP (FX (FX (FX (MB mb w18.heap.size) bk12) bk17) (w112.heap.size + 1)) w18.heap.size w112)).next h9.2 (fun i hi h => TP.backE hE1 hi h)
   exact h9.1.elim (fun q => .inl ⟨⟨q.1, h8⟩, q.2⟩) (fun q => .inr ⟨⟨q.1, h8⟩, q.2⟩)
  ·
   intro lq x W K124 hI hK124
   change WC _ _ _ _ _ _ [(40, .slice x.ao x.xs.length x.cap), (5, .pointer (some ⟨bk7, 0, none⟩)), (6, .pointer (some ⟨bk12, 0, none⟩)), (7, .pointer (some ⟨bk17, 0, none⟩)), (8, .pointer (some ⟨bk29, 0, none⟩)), (32, .int .i64 ((xs.length : Int) + 1)), (33, .int .i64 (many : Int)), (39, .func (.func 125) #[] #[.pointer (some ⟨bT4, 0, none⟩), .pointer (some ⟨bT5, 0, none⟩), .pointer (some ⟨bT3, 0, none⟩)])] _
   refine (q_of ?_)
   refine go ?_
   exact hK124 () _ _ ⟨rfl, rfl, rfl, rfl, rfl, rfl, rfl, trivial⟩ (Upd.refl (fun _ => False) W) hI
  ·
   intro lq x d w125 hY
   have huR := hY.hc.hu
   have hlx := hY.len.1
   have hcrY0 := hY.hc.cr
   have lmbY := hcrY0.row.row.acc.lt
   have zhuR := huR.size
   try have Y126 := Sc.mk (Y115.u.next huR (fun i hi (h : TP (FX (FX (FX (MB mb w18.heap.size) bk12) bk17) (w112.heap.size + 1)) w18.heap.size w112 i) => show False by first | omega | assumption | exact TP.back (Sc.u (by assumption)) hi h | exact TP.back (Sc.u (by assumption)) hi h.fx.fx | exact h.elim (fun h => by have := h.2; omega) (fun h => by have := h.1; omega) | exact h.elim (fun h => h.elim (fun h => h.elim (fun h => by have := h.1; have := h.2; omega) (fun h => by omega)) (fun h => by omega)) (fun h => by have := h.1; omega) | exact Or.inl (Or.inl (Or.inr h)) | exact Or.inl (Or.inr h)))
   have lt_x_g := hY.num.lt
   change WC _ _ _ _ _ _ [(5, .pointer (some ⟨bk7, 0, none⟩)), (6, .pointer (some ⟨bk12, 0, none⟩)), (7, .pointer (some ⟨bk17, 0, none⟩)), (8, .pointer (some ⟨bk29, 0, none⟩)), (11, .slice x.ao x.xs.length x.cap), (32, .int .i64 ((xs.length : Int) + 1)), (33, .int .i64 (many : Int))] _
   refine (q_of ?_)
   have hcellsR := (TP.cellsB (F := (FX (FX (MB mb w18.heap.size) bk12) bk17)) (pb := w18.heap.size) (B := w112.heap.size) (w := w125) hF9)
   refine go ?_
   refine x_l5 (fun i => w125.heap.size ≤ i) [5, 6, 7, 8, 11, 32, 33, 41, 42] (fun (j : Nat) (ao : Option Addr) (gs : Nat) (cs : Nat) (so : List Leg) => [(12, .slice ao so.length cs), (43, .int .i64 (j : Int))]) (fun j ao gs cs so w => (j ≤ x.xs.length) ∧ (Acc encLeg 7 79 w125.heap.size w ao gs cs so) ∧ (so = pickL xs (x.xs.take j))) (fun j ao gs cs so => x.xs.length - j) 0 none 0 0 ([]) ⟨(Nat.zero_le _), (Acc.nil _ _ _ _ _ (by omega) (by omega)), rfl⟩ ?_
   rintro j ao gs cs so w131 ⟨hj, hso, hse⟩ u132 zu132 K130 hK130
   try have Y133 := Sc.mk (Y126.u.next u132 (fun i hi (h : w125.heap.size ≤ i) => show False by first | omega | assumption | exact TP.back (Sc.u (by assumption)) hi h | exact TP.back (Sc.u (by assumption)) hi h.fx.fx | exact h.elim (fun h => by have := h.2; omega) (fun h => by have := h.1; omega) | exact h.elim (fun h => h.elim (fun h => h.elim (fun h => by have := h.1; have := h.2; omega) (fun h => by omega)) (fun h => by omega)) (fun h => by have := h.1; omega) | exact Or.inl (Or.inl (Or.inr h)) | exact Or.inl (Or.inr h)))
   have lt_gs := hso.lt
   have hxj := hY.len.2
   refine go ?_
   refine q_p (fun g44 => ?_) fun g44 => ?_
   ·
    have hjx := hY.len.2 _ (nth_mem (xs := x.xs) (i := j) (by omega))
    have hsol : so.length = j := by rw [hse]; simp [pickL]; omega
    refine go ?_
    have D138 := (hY.num.keep u132 (fun hb => show ¬ (w125.heap.size ≤ x.g) by first | omega | assumption | exact nTx hb))
    refine g_i j (D138.sl (fun _ => rfl)) (fun _ => ?_)
    refine go ?_
    have k140 := (B116.keep huR (show ¬ (TP (FX (FX (FX (MB mb w18.heap.size) bk12) bk17) (w112.heap.size + 1)) w18.heap.size w112 bk7) by first | omega | assumption))
    refine go ?_
    have D141 := (((((D65.keep u68 (fun h9 => by have h7 := hxs.lt h9; show ¬ (TP (MB mb w18.heap.size) w18.heap.size w34 bx); first | omega | exact TP.belowM (by omega) | exact hnx h9 | exact hnx2 h9)).keep u98 (fun h9 => by have h7 := hxs.lt h9; show ¬ (TP (FX (FX (MB mb w18.heap.size) bk12) bk17) w18.heap.size w67 bx); first | omega | exact TP.belowM (by omega) | exact hnx h9 | exact hnx2 h9)).keep u113 (fun _ h => h)).keep huR (fun h9 => by have h7 := hxs.lt h9; show ¬ (TP (FX (FX (FX (MB mb w18.heap.size) bk12) bk17) (w112.heap.size + 1)) w18.heap.size w112 bx); first | omega | exact TP.belowM (by omega) | exact hnx h9 | exact hnx2 h9)).keep u132 (fun h9 => by have h7 := hxs.lt h9; show ¬ (w125.heap.size ≤ bx); first | omega | exact TP.belowM (by omega) | exact hnx h9 | exact hnx2 h9))
    refine g_i ((nth x.xs j).toNat) D141 (fun _ => ?_) (hj := (by omega))
    refine go ?_
    refine x_l fun bk143 w144 ebk143 sbk143 B145 u146 => ?_
    try have Y147 := Sc.mk (Y133.u.nx u146)
    have D148 := (hso.keep u146 (fun _ h => h))
    refine t_append (z := .agg #[.int .i64 0, .int .i64 0, .int .i64 0, .int .i64 0, .int .i64 0, .int .i64 0, .int .i64 0]) (bytes := 56) (k := 7) (base := w125.heap.size) (nth xs (nth x.xs j).toNat) underlying74 (by kernel_rfl) rfl (by decide) (fun _ => rfl) (by intro x; simp [encLeg, Value.oneCell']) rfl rfl rfl rfl D148 B145 (by omega) (by omega) (by decide) (fun ao149 gb150 cp151 w152 A153 u154 gegb150 lngb150 => ?_)
    have zu154 := u154.size
    try have Y155 := Sc.mk (Y147.u.next u154 (fun i hi h => by omega))
    have lt_gb150 := A153.lt
    refine go ?_
    exact hK130 (j + 1) ao149 gb150 cp151 (so ++ [(nth xs (nth x.xs j).toNat)]) ⟨(by omega), A153, (by rw [hse, take_nth (by omega)]; simp [pickL])⟩ (hu := ((u132.nx u146).next u154 (fun i hi (h : (i = gs ∧ w125.heap.size ≤ i)) => show w125.heap.size ≤ i by first | omega | assumption | exact TP.back (Sc.u (by assumption)) hi h | exact TP.back (Sc.u (by assumption)) hi h.fx.fx | exact h.elim (fun h => by have := h.2; omega) (fun h => by have := h.1; omega) | exact h.elim (fun h => h.elim (fun h => h.elim (fun h => by have := h.1; have := h.2; omega) (fun h => by omega)) (fun h => by omega)) (fun h => by have := h.1; omega) | exact Or.inl (Or.inl (Or.inr h)) | exact Or.inl (Or.inr h))))
   have hje : so = pickL xs x.xs := by rw [hse, List.take_of_length_le (by omega)]
   rw [hje] at hso
   refine c_same 12 (v := .slice ao ((pickL xs x.xs).length) cs) rfl (by rw [hje]) ?_
   have lt_gs := hso.lt
   refine go ?_
   have k157 := (B118.keep huR (show ¬ (TP (FX (FX (FX (MB mb w18.heap.size) bk12) bk17) (w112.heap.size + 1)) w18.heap.size w112 bk29) by first | omega | assumption))
   refine go ?_
   have hcS_w131 := (hcrY0.ext ((Upd.refl (fun _ => False) _).next u132 (fun i hi (h : w125.heap.size ≤ i) => show False by first | omega | assumption)))
   have uPB : Sc (TP (FX (FX (MB mb w18.heap.size) bk12) bk17) w18.heap.size w125) w125 w131 := ⟨((Upd.refl (TP (FX (FX (MB mb w18.heap.size) bk12) bk17) w18.heap.size w125) _).next u132 (fun i hi h => by omega))⟩
   have nTb159 : ¬ TP (MB mb w18.heap.size) w18.heap.size w131 bk7 := TP.belowM (by omega)
   have B160 := (hY.hc.b6.keep u132 (show ¬ (w125.heap.size ≤ bk12) by first | omega | assumption))
   have nTb161 : ¬ TP (MB mb w18.heap.size) w18.heap.size w131 bk12 := TP.belowM (by omega)
   have B162 := (hY.hc.b7.keep u132 (show ¬ (w125.heap.size ≤ bk17) by first | omega | assumption))
   have nTb163 : ¬ TP (MB mb w18.heap.size) w18.heap.size w131 bk17 := TP.belowM (by omega)
   have B164 := (k157.keep u132 (show ¬ (w125.heap.size ≤ bk29) by first | omega | assumption))
   have nTb165 : ¬ TP (MB mb w18.heap.size) w18.heap.size w131 bk29 := TP.not (fun h => h8m h) B164 (by decide)
   have hsoA := hso
   have hnl : ∀ y ∈ pickL xs x.xs, okLeg y = true := fun y hy => by
     obtain ⟨i, hi, rfl⟩ := List.mem_map.1 hy
     have := hY.len.2 i hi; exact h9 _ (nth_mem (by omega))
   have hpl : (pickL xs x.xs).length = x.xs.length := List.length_map ..
   have hcrY := hY.hc.cr
   have D166 := (hY.num.keep u132 (fun hb => show ¬ (w125.heap.size ≤ x.g) by first | omega | assumption | exact nTx hb))
   have nTx : w18.heap.size ≤ x.g → ¬ TP (MB mb w18.heap.size) w18.heap.size w131 x.g := (D166).notTP (fun hb hm => hY.nf hb (.inl (.inl (.inl hm)))) (by decide)
   refine t_call own58 rfl rfl rfl rfl (safe_c r w18.heap.size cO am mb cm ms.length 20 ms (pickL xs x.xs) ao gs 0 cs _ (hcrY0.ext ((Upd.refl (fun _ => False) _).next u132 (fun i hi (h : w125.heap.size ≤ i) => show False by first | omega | assumption))) hnl (by omega) (by omega) (hsoA.sl (fun _ => rfl)) hsoA.cap_le (fun hp hb => by
     have h1 : w125.heap.size ≤ gs := hsoA.at_.elim (fun q => by rw [q.2.1] at hp; cases hp) (fun q => q.2.1)
     obtain ⟨cs, hB⟩ := hsoA.blkT h1
     exact ⟨fun e => by have := hcrY.row.row.acc.lt; omega, _, cs, by decide, hB⟩)) (fun v167 w168 r170 => ?_)
   obtain ⟨rfl, hrowS, u169⟩ := r170
   have zu169 := u169.size
   try have Y171 := Sc.mk (Y133.u.next u169 (fun i hi (h : TP (MB mb w18.heap.size) w18.heap.size w131 i) => show False by first | omega | assumption | exact TP.back (Sc.u (by assumption)) hi h | exact TP.back (Sc.u (by assumption)) hi h.fx.fx | exact h.elim (fun h => by have := h.2; omega) (fun h => by have := h.1; omega) | exact h.elim (fun h => h.elim (fun h => h.elim (fun h => by have := h.1; have := h.2; omega) (fun h => by omega)) (fun h => by omega)) (fun h => by have := h.1; omega) | exact Or.inl (Or.inl (Or.inr h)) | exact Or.inl (Or.inr h)))
   have hcr172 : CrewM r w18.heap.size cO am mb cm ms.length 20 ms w168 := ⟨hcr.hr, hrowS, hcr.hn, hcr.hB, ⟨hcr.hpb.1, by omega⟩, hcr.hc⟩
   refine go ?_
   refine q_b (fun g58 => ?_) fun g58 => ?_
   ·
    have hsq : sfP r (pickL xs x.xs) (ms.map HM.mb) = false := by unfold sfP; simpa using g58
    refine go ?_
    refine x_s fun w175 sw175 B177 u176 => ?_
    try have Y178 := Sc.mk (Y171.u.next u176 (fun i hi h => by omega))
    refine x_s fun w180 sw180 B182 u181 => ?_
    try have Y183 := Sc.mk (Y178.u.next u181 (fun i hi h => by omega))
    refine go ?_
    have hUr := (((((Upd.refl (fun i => TP (FX (FX (MB mb w18.heap.size) bk12) bk17) w18.heap.size w125 i) w125).next u132 (fun i hi (h : w125.heap.size ≤ i) => show TP (FX (FX (MB mb w18.heap.size) bk12) bk17) w18.heap.size w125 i by first | omega | assumption | exact TP.back (Sc.u (by assumption)) hi h | exact TP.back (Sc.u (by assumption)) hi h.fx.fx | exact h.elim (fun h => by have := h.2; omega) (fun h => by have := h.1; omega) | exact h.elim (fun h => h.elim (fun h => h.elim (fun h => by have := h.1; have := h.2; omega) (fun h => by omega)) (fun h => by omega)) (fun h => by have := h.1; omega) | exact Or.inl (Or.inl (Or.inr h)) | exact Or.inl (Or.inr h))).next u169 (fun i hi (h : TP (MB mb w18.heap.size) w18.heap.size w131 i) => show TP (FX (FX (MB mb w18.heap.size) bk12) bk17) w18.heap.size w125 i by first | omega | assumption | exact TP.back (Sc.u (by assumption)) hi h | exact TP.back (Sc.u (by assumption)) hi h.fx.fx | exact h.elim (fun h => by have := h.2; omega) (fun h => by have := h.1; omega) | exact h.elim (fun h => h.elim (fun h => h.elim (fun h => by have := h.1; have := h.2; omega) (fun h => by omega)) (fun h => by omega)) (fun h => by have := h.1; omega) | exact Or.inl (Or.inl (Or.inr h)) | exact Or.inl (Or.inr h))).next u176 (fun i hi (h : i = bk12) => show TP (FX (FX (MB mb w18.heap.size) bk12) bk17) w18.heap.size w125 i by first | omega | assumption | exact TP.back (Sc.u (by assumption)) hi h | exact TP.back (Sc.u (by assumption)) hi h.fx.fx | exact h.elim (fun h => by have := h.2; omega) (fun h => by have := h.1; omega) | exact h.elim (fun h => h.elim (fun h => h.elim (fun h => by have := h.1; have := h.2; omega) (fun h => by omega)) (fun h => by omega)) (fun h => by have := h.1; omega) | exact Or.inl (Or.inl (Or.inr h)) | exact Or.inl (Or.inr h))).next u181 (fun i hi (h : i = bk17) => show TP (FX (FX (MB mb w18.heap.size) bk12) bk17) w18.heap.size w125 i by first | omega | assumption | exact TP.back (Sc.u (by assumption)) hi h | exact TP.back (Sc.u (by assumption)) hi h.fx.fx | exact h.elim (fun h => by have := h.2; omega) (fun h => by have := h.1; omega) | exact h.elim (fun h => h.elim (fun h => h.elim (fun h => by have := h.1; have := h.2; omega) (fun h => by omega)) (fun h => by omega)) (fun h => by have := h.1; omega) | exact Or.inl (Or.inl (Or.inr h)) | exact Or.inl (Or.inr h)))
    have uW : Sc (TP (FX (FX (FX (MB mb w18.heap.size) bk12) bk17) (w112.heap.size + 1)) w18.heap.size w125) _ _ := ⟨hUr.mono (fun i h => h.fx)⟩
    have B184 := (B177.keep u181 (by omega))
    have D185 := (((D166.keep u169 (fun hb => show ¬ (TP (MB mb w18.heap.size) w18.heap.size w131 x.g) by first | omega | assumption | exact nTx hb)).keep u176 (fun hb => show ¬ (x.g = bk12) by first | omega | assumption | exact nTx hb)).keep u181 (fun hb => show ¬ (x.g = bk17) by first | omega | assumption | exact nTx hb))
    exact ⟨fun a ha => ⟨KeepsFrom.of_updB hUr hcellsR, (⟨⟨hY.hc.ok, hsq, ⟨_, _, _, B184, D185⟩, B182, hY.hc.hu.next uW.u (fun i hi h => TP.back hY.hc.hu hi h)⟩, (hY.upd.mono fun i e => .inl (.inr e)).next uW.u (fun i hi h => TP.back (hY.upd.mono fun i e => .inl (.inr e)) hi h)⟩ : FC (FX (FX (FX (MB mb w18.heap.size) bk12) bk17) (w112.heap.size + 1)) w18.heap.size (ShF (FX (FX (FX (MB mb w18.heap.size) bk12) bk17) (w112.heap.size + 1)) r xs w18.heap.size mb ms bk12 bk17 w112) x _)⟩⟩
   have hsq : sfP r (pickL xs x.xs) (ms.map HM.mb) = true := by unfold sfP; simpa using g58
   refine go ?_
   have hUr := (((Upd.refl (fun i => TP (FX (FX (MB mb w18.heap.size) bk12) bk17) w18.heap.size w125 i) w125).next u132 (fun i hi (h : w125.heap.size ≤ i) => show TP (FX (FX (MB mb w18.heap.size) bk12) bk17) w18.heap.size w125 i by first | omega | assumption | exact TP.back (Sc.u (by assumption)) hi h | exact TP.back (Sc.u (by assumption)) hi h.fx.fx | exact h.elim (fun h => by have := h.2; omega) (fun h => by have := h.1; omega) | exact h.elim (fun h => h.elim (fun h => h.elim (fun h => by have := h.1; have := h.2; omega) (fun h => by omega)) (fun h => by omega)) (fun h => by have := h.1; omega) | exact Or.inl (Or.inl (Or.inr h)) | exact Or.inl (Or.inr h))).next u169 (fun i hi (h : TP (MB mb w18.heap.size) w18.heap.size w131 i) => show TP (FX (FX (MB mb w18.heap.size) bk12) bk17) w18.heap.size w125 i by first | omega | assumption | exact TP.back (Sc.u (by assumption)) hi h | exact TP.back (Sc.u (by assumption)) hi h.fx.fx | exact h.elim (fun h => by have := h.2; omega) (fun h => by have := h.1; omega) | exact h.elim (fun h => h.elim (fun h => h.elim (fun h => by have := h.1; have := h.2; omega) (fun h => by omega)) (fun h => by omega)) (fun h => by have := h.1; omega) | exact Or.inl (Or.inl (Or.inr h)) | exact Or.inl (Or.inr h)))
   have uW : Sc (TP (FX (FX (FX (MB mb w18.heap.size) bk12) bk17) (w112.heap.size + 1)) w18.heap.size w125) _ _ := ⟨hUr.mono (fun i h => h.fx)⟩
   have B186 := (B160.keep u169 (show ¬ (TP (MB mb w18.heap.size) w18.heap.size w131 bk12) by first | omega | assumption))
   have B187 := (B162.keep u169 (show ¬ (TP (MB mb w18.heap.size) w18.heap.size w131 bk17) by first | omega | assumption))
   exact ⟨fun a ha => ⟨KeepsFrom.of_updB hUr hcellsR, (⟨⟨hcr172, fun q hq => (List.mem_append.1 hq).elim (hY.hc.ok q) (fun e => by rw [List.mem_singleton.1 e]; exact hsq), B186, B187, hY.hc.hu.next uW.u (fun i hi h => TP.back hY.hc.hu hi h)⟩, (hY.upd.mono fun i e => .inl (.inr e)).next uW.u (fun i hi h => TP.back (hY.upd.mono fun i e => .inl (.inr e)) hi h)⟩ : ZC (FX (FX (FX (MB mb w18.heap.size) bk12) bk17) (w112.heap.size + 1)) w18.heap.size (ShC (FX (FX (FX (MB mb w18.heap.size) bk12) bk17) (w112.heap.size + 1)) r xs w18.heap.size cO am mb cm ms.length ms bk12 bk17 w112) x _)⟩⟩
  ·
   have hmk0 := (hmkl.keep ((Upd.refl (fun _ => False) _).nx u113) (CellsIn.none _))
   have hmc0 := (sh_cells (by omega) B122 B123 hcrR)
   intro D189 w188 hD189 hE hdD189
   have hu9 : Sc (TP (FX (FX (MB mb w18.heap.size) bk12) bk17) w18.heap.size w112) w112 w188 := ⟨⟨hE.hu.os, hE.hu.tape, hE.hu.output, hE.hu.size, fun k hk hn => hE.hu.block k hk (fun h => hn (h.unfx (by omega)))⟩⟩
   have zhu9 := hu9.u.size
   try have Y190 := Sc.mk (Y115.u.next hu9.u (fun i hi (h : TP (FX (FX (MB mb w18.heap.size) bk12) bk17) w18.heap.size w112 i) => show False by first | omega | assumption | exact TP.back (Sc.u (by assumption)) hi h | exact TP.back (Sc.u (by assumption)) hi h.fx.fx | exact h.elim (fun h => by have := h.2; omega) (fun h => by have := h.1; omega) | exact h.elim (fun h => h.elim (fun h => h.elim (fun h => by have := h.1; have := h.2; omega) (fun h => by omega)) (fun h => by omega)) (fun h => by have := h.1; omega) | exact Or.inl (Or.inl (Or.inr h)) | exact Or.inl (Or.inr h)))
   obtain ⟨pr9, v9, po9, e9, hf9⟩ := hE.hi
   obtain ⟨aoF, gF, cpF, hbF, haF⟩ := hf9.b6
   have mk191 := (hmk0.keepB hu9.u hmc0).push (D := D189) (by omega) hdD189 (fun d hd D' e => Nat.lt_of_lt_of_le (hmk0.lt d hd D' e) hD189)
   refine go ?_
   have hmkE := mk191
   refine f_retMc2 (v1 := .slice aoF (List.length v9) cpF) (v2 := .int .i64 0) results20 (.cell mk191 rfl isAgg38 hbF rfl) (.cell mk191 rfl isAgg39 hf9.b7 rfl) mk191 (fun w192 u193 omw192 => ?_)
   have zu193 := u193.size
   try have Y194 := Sc.mk (Y190.u.next u193 (fun i hi (h : w0.heap.size ≤ i) => show False by first | omega | assumption | exact TP.back (Sc.u (by assumption)) hi h | exact TP.back (Sc.u (by assumption)) hi h.fx.fx | exact h.elim (fun h => by have := h.2; omega) (fun h => by have := h.1; omega) | exact h.elim (fun h => h.elim (fun h => h.elim (fun h => by have := h.1; have := h.2; omega) (fun h => by omega)) (fun h => by omega)) (fun h => by have := h.1; omega) | exact Or.inl (Or.inl (Or.inr h)) | exact Or.inl (Or.inr h)))
   have haZ := haF.keep omw192 (fun hb q => by
     obtain ⟨cs, hB⟩ := haF.blkT hb
     exact hmkE.notBlk hB q)
   rw [hma] at hsf hfew
   have hok9 := hf9.ok
   have hno9 := hf9.no
   rw [hma] at hok9 hno9
   exact ⟨⟨aoF, gF, cpF, v9, 0, rfl, haZ.sl (fun _ => rfl), .inr (.inr (.inl ⟨h0, hsf, rfl, many, pr9, po9, by omega, hfew, e9, hok9, hno9⟩))⟩, Y194.u⟩
  ·
   have hmk0 := (hmkl.keep ((Upd.refl (fun _ => False) _).nx u113) (CellsIn.none _))
   have hmc0 := (sh_cells (by omega) B122 B123 hcrR)
   intro D196 w195 hD196 hE hdD196
   have hu9 : Sc (TP (FX (FX (MB mb w18.heap.size) bk12) bk17) w18.heap.size w112) w112 w195 := ⟨⟨hE.hu.os, hE.hu.tape, hE.hu.output, hE.hu.size, fun k hk hn => hE.hu.block k hk (fun h => hn (h.unfx (by omega)))⟩⟩
   have zhu9 := hu9.u.size
   try have Y197 := Sc.mk (Y115.u.next hu9.u (fun i hi (h : TP (FX (FX (MB mb w18.heap.size) bk12) bk17) w18.heap.size w112 i) => show False by first | omega | assumption | exact TP.back (Sc.u (by assumption)) hi h | exact TP.back (Sc.u (by assumption)) hi h.fx.fx | exact h.elim (fun h => by have := h.2; omega) (fun h => by have := h.1; omega) | exact h.elim (fun h => h.elim (fun h => h.elim (fun h => by have := h.1; have := h.2; omega) (fun h => by omega)) (fun h => by omega)) (fun h => by have := h.1; omega) | exact Or.inl (Or.inl (Or.inr h)) | exact Or.inl (Or.inr h)))
   have mk198 := (hmk0.keepB hu9.u hmc0).push (D := D196) (by omega) hdD196 (fun d hd D' e => Nat.lt_of_lt_of_le (hmk0.lt d hd D' e) hD196)
   refine go ?_
   exact hK96 (many + 1, (mark D196 :: dl)) _ _ (by show xs.length + 1 - (many + 1) < xs.length + 1 - many; omega) ⟨rfl, rfl, rfl, rfl, rfl, rfl, trivial⟩ ⟨((u98.nx u113).next hu9.u (fun i hi (h : TP (FX (FX (MB mb w18.heap.size) bk12) bk17) w18.heap.size w112 i) => show TP (FX (FX (MB mb w18.heap.size) bk12) bk17) w18.heap.size w67 i by first | omega | assumption | exact TP.back (Sc.u (by assumption)) hi h | exact TP.back (Sc.u (by assumption)) hi h.fx.fx | exact h.elim (fun h => by have := h.2; omega) (fun h => by have := h.1; omega) | exact h.elim (fun h => h.elim (fun h => h.elim (fun h => by have := h.1; have := h.2; omega) (fun h => by omega)) (fun h => by omega)) (fun h => by have := h.1; omega) | exact Or.inl (Or.inl (Or.inr h)) | exact Or.inl (Or.inr h))), hE.hi.b6, hE.hi.b7, (by omega), hE.hi.cr, (fun m hm l hl => by
     rcases Nat.lt_or_ge m many with h | h
     · exact hfew m h l hl
     · rw [show m = many by omega] at hl; exact hE.hi.ok l hl), mk198⟩
 refine go ?_
 refine x_s fun w200 sw200 B202 u201 => ?_
 try have Y203 := Sc.mk (Y105.u.next u201 (fun i hi h => by omega))
 have B204 := (I100.keep u201 (by omega))
 refine x_s fun w205 sw205 B207 u206 => ?_
 try have Y208 := Sc.mk (Y203.u.next u206 (fun i hi h => by omega))
 refine go ?_
 have B209 := (B202.keep u206 (by omega))
 have D212 := ((hmkl.keepB u201 (CellsB.of (I99).cellsIn)).keepB u206 (CellsB.of (B204).cellsIn))
 have hmkE := D212
 refine f_retMc2 (v1 := .slice none 0 0) (v2 := .int .i64 9) results20 (.cell D212 rfl isAgg38 B209 rfl) (.cell D212 rfl isAgg39 B207 rfl) D212 (fun w210 u211 omw210 => ?_)
 have zu211 := u211.size
 try have Y213 := Sc.mk (Y208.u.next u211 (fun i hi (h : w0.heap.size ≤ i) => show False by first | omega | assumption | exact TP.back (Sc.u (by assumption)) hi h | exact TP.back (Sc.u (by assumption)) hi h.fx.fx | exact h.elim (fun h => by have := h.2; omega) (fun h => by have := h.1; omega) | exact h.elim (fun h => h.elim (fun h => h.elim (fun h => by have := h.1; have := h.2; omega) (fun h => by omega)) (fun h => by omega)) (fun h => by have := h.1; omega) | exact Or.inl (Or.inl (Or.inr h)) | exact Or.inl (Or.inr h)))
 exact ⟨⟨none, 0, 0, [], _, rfl, Sl.nil _ _ _ _ _ _, .inr (.inr (.inr ⟨h0, by rw [← hma]; exact hsf, by rw [← hma, ← show many = xs.length + 1 by omega]; exact hfew, rfl, rfl⟩))⟩, Y213.u⟩

end Go.Proofs.YtclinbbghnebaaaGreat
