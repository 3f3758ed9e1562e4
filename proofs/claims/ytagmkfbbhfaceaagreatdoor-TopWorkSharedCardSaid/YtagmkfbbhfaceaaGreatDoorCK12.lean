/-
  Part 12 of the proof: contracts and plain laws. Conditions: none.
-/
import Derived.Test.YtagmkfbbhfaceaaGreatDoorCK11
namespace Go.Proofs.YtagmkfbbhfaceaaGreatDoor
open Go Go.RowKit Go.Proofs.Tryz
set_option maxRecDepth 10000
theorem Acc.lowG {α : Type} {enc : α → List Value} {k : Nat} {e : TypeId} {base base' : Nat} {w : World} {ao : Option Addr} {g cap : Nat} {xs : List α} (h : Acc enc k e base w ao g cap xs) (hb : base' ≤ base) (h0 : 0 < base') (hs : base' ≤ w.heap.size) : ∃ g', Acc enc k e base' w ao g' cap xs ∧ (base' ≤ g' → g' = g ∧ base ≤ g) := by
  rcases h.at_ with ⟨h1, h2, h3, h4⟩ | ⟨h1, h2, h3⟩
  · subst h1 h2 h3
    exact ⟨0, Acc.nil _ _ _ _ _ h0 hs, fun h => by omega⟩
  · exact ⟨g, ⟨h.lt, .inr ⟨h1, by omega, h3⟩⟩, fun _ => ⟨rfl, h2⟩⟩
/-- A state of somebody else's. -/
structure SIn (w : World) (V : SG) (oh ol ou : Nat) : Prop where
  hs : Sl encHR 3 w V.ah V.gh oh V.rs
  cs : ∀ r ∈ V.rs, Sl encCrg 2 w r.ao r.g r.o r.c
  ls : Sl encCrg 2 w V.al V.gl ol V.ld
  us : Sl encCrg 2 w V.au V.gu ou V.un
/-- j hulls' lists are copied. -/
structure OwnI (base m : Nat) (w : World) (V : SG) (j : Nat) (rs : List HR) : Prop where
  len : rs.length = V.rs.length
  hul : rs.map HR.hul = V.rs.map HR.hul
  rest : ∀ i, j ≤ i → i < V.rs.length → nth rs i = nth V.rs i
  own : ∀ i, i < j → i < V.rs.length → (nth rs i).o = 0 ∧ Acc encCrg 2 72 base w (nth rs i).ao (nth rs i).g (nth rs i).cp (nth rs i).c ∧ (base ≤ (nth rs i).g → m ≤ (nth rs i).g)
  sep : ∀ i k, i < k → k < j → k < V.rs.length → base ≤ (nth rs i).g → (nth rs i).g ≠ (nth rs k).g
theorem OwnI.zero (base m : Nat) (w : World) (V : SG) : OwnI base m w V 0 V.rs := ⟨rfl, rfl, fun _ _ _ => rfl, fun _ h => absurd h (Nat.not_lt_zero _), fun _ _ _ h => absurd h (Nat.not_lt_zero _)⟩
theorem OwnI.keep {base m : Nat} {w w' : World} {V : SG} {j : Nat} {rs : List HR} {S : Nat → Prop} (h : OwnI base m w V j rs) (u : Upd S w w') (hS : ∀ i, S i → i < m) : OwnI base m w' V j rs :=
  ⟨h.len, h.hul, h.rest, fun i hi hl => ⟨(h.own i hi hl).1, (h.own i hi hl).2.1.keep u (fun hb hs => by have := hS _ hs; have := (h.own i hi hl).2.2 hb; omega), (h.own i hi hl).2.2⟩, h.sep⟩
theorem OwnI.next {base m : Nat} {w w' : World} {V : SG} {j : Nat} {rs : List HR} (h : OwnI base m w' V j rs) (hj : j < V.rs.length) {ao : Option Addr} {g cp : Nat} (ha : Acc encCrg 2 72 base w' ao g cp (nth rs j).c) (hg : base ≤ g → m ≤ g ∧ w.heap.size ≤ g) (hw : ∀ i, i < j → (nth rs i).g < w.heap.size) : OwnI base m w' V (j + 1) (rs.set j ⟨(nth rs j).n, (nth rs j).p, ao, g, 0, cp, (nth rs j).c⟩) := by
  have hl := h.len
  refine ⟨by rw [List.length_set, hl], ?_, fun i hi hl2 => ?_, fun i hi hl2 => ?_, fun i k hik hk hl2 => ?_⟩
  · rw [← h.hul, List.map_set]
    have e : (HR.hul ⟨(nth rs j).n, (nth rs j).p, ao, g, 0, cp, (nth rs j).c⟩) = nth (rs.map HR.hul) j := by rw [nth_mapG (by omega)]; rfl
    rw [e]
    refine set_same ?_
    rw [List.getElem?_eq_getElem (by rw [List.length_map]; omega), nth_eq]
  · rw [nth_setN (by omega)]; exact h.rest i (by omega) hl2
  · by_cases e : i = j
    · subst e; rw [nth_setE (by omega)]; exact ⟨rfl, ha, fun hb => (hg hb).1⟩
    · rw [nth_setN e]; exact h.own i (by omega) hl2
  · by_cases e : k = j
    · subst e
      rw [nth_setN (by omega), nth_setE (by omega)]
      intro hb hq
      have hq : (nth rs i).g = g := hq
      have := hw i hik
      have := hg (by omega)
      omega
    · rw [nth_setN (by omega), nth_setN e]; exact h.sep i k hik (by omega) hl2
theorem OwnI.lt {base m : Nat} {w : World} {V : SG} {j : Nat} {rs : List HR} (h : OwnI base m w V j rs) (hj : j ≤ V.rs.length) : ∀ i, i < j → (nth rs i).g < w.heap.size := fun i hi => (h.own i hi (by omega)).2.1.lt
/-- All is copied. -/
theorem SeaM.ofOwn {base m sb : Nat} {w : World} {V : SG} {rs : List HR} {ah al au : Option Addr} {gh ch gl cl gu cu : Nat} (hI : OwnI base m w V V.rs.length rs) (hs : base ≤ sb) (hb : Blk w sb 146 { V with rs := rs, ah := ah, gh := gh, ch := ch, al := al, gl := gl, cl := cl, au := au, gu := gu, cu := cu }.cells)
    (hh : Acc encHR 3 70 base w ah gh ch rs) (hl : Acc encCrg 2 72 base w al gl cl V.ld) (hu : Acc encCrg 2 72 base w au gu cu V.un) (h1 : base ≤ gl → gl ≠ gu) (h2 : base ≤ gl → gl < m) (h3 : base ≤ gu → gu < m) :
    SeaM base sb w { V with rs := rs, ah := ah, gh := gh, ch := ch, al := al, gl := gl, cl := cl, au := au, gu := gu, cu := cu } := by
  have hln := hI.len
  have hx : ∀ r ∈ rs, ∃ i, i < V.rs.length ∧ r = nth rs i := fun r hr => by
    obtain ⟨i, hi, rfl⟩ := List.mem_iff_getElem.1 hr
    exact ⟨i, by omega, (nth_eq hi).symm⟩
  refine ⟨hs, hb, hh, fun r hr => ?_, hl, hu, h1, fun r hr hq => ?_, fun i j hij hj hq => ?_⟩
  · obtain ⟨i, hi, rfl⟩ := hx r hr
    exact ⟨(hI.own i hi hi).1, (hI.own i hi hi).2.1⟩
  · obtain ⟨i, hi, rfl⟩ := hx r hr
    have := (hI.own i hi hi).2.2 hq
    refine ⟨?_, ?_⟩
    · show (nth rs i).g ≠ gl
      intro e
      have := h2 (by omega)
      omega
    · show (nth rs i).g ≠ gu
      intro e
      have := h3 (by omega)
      omega
  · have hj : j < rs.length := hj
    exact hI.sep i j hij (by omega) (by omega) hq
/-- A state of the call's own is a state of somebody else's, too. -/
theorem SeaM.sin {base sb : Nat} {w : World} {V : SG} (h : SeaM base sb w V) : SIn w V 0 0 0 := ⟨h.hacc.sl (fun _ => rfl), fun r hr => by have q := h.cacc r hr; rw [q.1]; exact q.2.sl (fun _ => rfl), h.lacc.sl (fun _ => rfl), h.uacc.sl (fun _ => rfl)⟩
theorem SIn.ext {w w' : World} {V : SG} {oh ol ou : Nat} (h : SIn w V oh ol ou) (u : Ext w w') : SIn w' V oh ol ou := ⟨h.hs.keep u (fun _ h => h), fun r hr => (h.cs r hr).keep u (fun _ h => h), h.ls.keep u (fun _ h => h), h.us.keep u (fun _ h => h)⟩
set_option maxHeartbeats 4000000 in
theorem own_c (V : SG) (oh ol ou : Nat) (w0 : World) (hI : SIn w0 V oh ol ou) (hpos : 0 < w0.heap.size) (hr : V.rs.length ≤ 999) (hl : V.ld.length ≤ 9999) (hu : V.un.length ≤ 9999) (hcl : ∀ r ∈ V.rs, r.c.length ≤ 9999) :
    CallsV Tryz.prog 54 [.agg #[.int .i64 V.m, .slice V.ah V.rs.length V.ch, .slice V.al V.ld.length V.cl, .slice V.au V.un.length V.cu, .int .i64 V.wk]] w0 (fun v w' => (∃ sb V', v = .pointer (some ⟨sb, 0, none⟩) ∧ SeaM w0.heap.size sb w' V' ∧ V'.st = V.st) ∧ Ext w0 w') := by
 have hhs := hI.hs
 have hls := hI.ls
 have hus := hI.us
 refine f_n func54 ?_
 refine go ?_
 refine x_b fun bk2 w3 ebk2 sbk2 B4 u5 => ?_
 refine go ?_
 refine c_drawnM follows (fun i => i = bk2) (.look 0 (.look 3 (.look 6 (.act 1 (.act 2 (.act 4 (.act 5 (.act 7 (.look 9 (.act 8 (.act 10 (.look 11 (.act 12 (.look 13 (.act 14 .done .stop)) .stop)) .stop) .stop)) .stop) (.act 7 (.look 9 (.act 5 (.act 8 (.act 10 (.look 11 (.act 12 (.look 13 (.act 14 .done .stop)) .stop)) .stop) .stop) .stop)) .stop)) (.act 7 (.act 4 (.look 9 (.act 5 (.act 8 (.act 10 (.look 11 (.act 12 (.look 13 (.act 14 .done .stop)) .stop)) .stop) .stop) .stop)) .stop) .stop)) (.act 4 (.act 2 (.act 5 (.act 7 (.look 9 (.act 8 (.act 10 (.look 11 (.act 12 (.look 13 (.act 14 .done .stop)) .stop)) .stop) .stop)) .stop) (.act 7 (.look 9 (.act 5 (.act 8 (.act 10 (.look 11 (.act 12 (.look 13 (.act 14 .done .stop)) .stop)) .stop) .stop) .stop)) .stop)) (.act 7 (.act 2 (.look 9 (.act 5 (.act 8 (.act 10 (.look 11 (.act 12 (.look 13 (.act 14 .done .stop)) .stop)) .stop) .stop) .stop)) .stop) .stop)) (.act 7 (.act 2 (.act 4 (.look 9 (.act 5 (.act 8 (.act 10 (.look 11 (.act 12 (.look 13 (.act 14 .done .stop)) .stop)) .stop) .stop) .stop)) .stop) (.act 4 (.act 2 (.look 9 (.act 5 (.act 8 (.act 10 (.look 11 (.act 12 (.look 13 (.act 14 .done .stop)) .stop)) .stop) .stop) .stop)) .stop) .stop)) .stop))) (.act 4 (.act 1 (.act 2 (.act 5 (.act 7 (.look 9 (.act 8 (.act 10 (.look 11 (.act 12 (.look 13 (.act 14 .done .stop)) .stop)) .stop) .stop)) .stop) (.act 7 (.look 9 (.act 5 (.act 8 (.act 10 (.look 11 (.act 12 (.look 13 (.act 14 .done .stop)) .stop)) .stop) .stop) .stop)) .stop)) (.act 7 (.act 2 (.look 9 (.act 5 (.act 8 (.act 10 (.look 11 (.act 12 (.look 13 (.act 14 .done .stop)) .stop)) .stop) .stop) .stop)) .stop) .stop)) (.act 7 (.act 1 (.act 2 (.look 9 (.act 5 (.act 8 (.act 10 (.look 11 (.act 12 (.look 13 (.act 14 .done .stop)) .stop)) .stop) .stop) .stop)) .stop) .stop) .stop)) (.act 7 (.act 1 (.act 2 (.act 4 (.look 9 (.act 5 (.act 8 (.act 10 (.look 11 (.act 12 (.look 13 (.act 14 .done .stop)) .stop)) .stop) .stop) .stop)) .stop) (.act 4 (.act 2 (.look 9 (.act 5 (.act 8 (.act 10 (.look 11 (.act 12 (.look 13 (.act 14 .done .stop)) .stop)) .stop) .stop) .stop)) .stop) .stop)) (.act 4 (.act 1 (.act 2 (.look 9 (.act 5 (.act 8 (.act 10 (.look 11 (.act 12 (.look 13 (.act 14 .done .stop)) .stop)) .stop) .stop) .stop)) .stop) .stop) .stop)) .stop)))))) (by kernel_rfl) fun w8 u9 => ?_
 have zu9 := u9.size
 have E10 := Sc.mk (((Upd.refl (fun _ => False) w0).nx u5).nx u9)
 refine go ?_
 refine s_or ?_ ?_
 ·
  refine go ?_
  refine s_or ?_ ?_
  ·
   refine go ?_
   refine x_c func90 rfl rfl (cloneC_c V.ld V.al V.gl ol V.cl _ (hls.keep E10.u (fun _ h => h)) (by omega) (by omega)) ?_
   rintro _ w13 ⟨⟨aoQ11, gQ11, cQ11, rfl, haQ11⟩, u14⟩ zu14
   have E16 := Sc.mk (E10.u.nx u14)
   have lt_gQ11 := haQ11.lt
   refine go ?_
   refine s_or ?_ ?_
   ·
    refine go ?_
    refine s_or ?_ ?_
    ·
     refine go ?_
     refine x_c func90 rfl rfl (cloneC_c V.un V.au V.gu ou V.cu _ (hus.keep E16.u (fun _ h => h)) (by omega) (by omega)) ?_
     rintro _ w19 ⟨⟨aoQ17, gQ17, cQ17, rfl, haQ17⟩, u20⟩ zu20
     have E22 := Sc.mk (E16.u.nx u20)
     have lt_gQ17 := haQ17.lt
     refine go ?_
     refine x_c func91 rfl rfl (cloneH_c V.rs V.ah V.gh oh V.ch _ (hhs.keep E22.u (fun _ h => h)) (by omega) (by omega)) ?_
     rintro _ w25 ⟨⟨aoQ23, gQ23, cQ23, rfl, haQ23⟩, u26⟩ zu26
     have lt_gQ23 := haQ23.lt
     refine go ?_
     refine x_s fun w29 sw29 B31 u30 => ?_
     refine go ?_
     refine x_s fun w33 sw33 B35 u34 => ?_
     refine go ?_
     refine x_s fun w37 sw37 B39 u38 => ?_
     refine go ?_
     have D43 := (((((haQ11.keep u20 (fun _ h => h)).keep u26 (fun _ h => h)).keep u30 (fun hb => show ¬ (gQ11 = bk2) by first | omega | assumption)).keep u34 (fun hb => show ¬ (gQ11 = bk2) by first | omega | assumption)).keep u38 (fun hb => show ¬ (gQ11 = bk2) by first | omega | assumption))
     obtain ⟨gL, hL, hLg⟩ := Acc.lowG (base' := w0.heap.size) D43 (by omega) hpos (by omega)
     have lt_gL := hL.lt
     have D44 := ((((haQ17.keep u26 (fun _ h => h)).keep u30 (fun hb => show ¬ (gQ17 = bk2) by first | omega | assumption)).keep u34 (fun hb => show ¬ (gQ17 = bk2) by first | omega | assumption)).keep u38 (fun hb => show ¬ (gQ17 = bk2) by first | omega | assumption))
     obtain ⟨gU, hU, hUg⟩ := Acc.lowG (base' := w0.heap.size) D44 (by omega) hpos (by omega)
     have lt_gU := hU.lt
     have D45 := (((haQ23.keep u30 (fun hb => show ¬ (gQ23 = bk2) by first | omega | assumption)).keep u34 (fun hb => show ¬ (gQ23 = bk2) by first | omega | assumption)).keep u38 (fun hb => show ¬ (gQ23 = bk2) by first | omega | assumption))
     obtain ⟨gH, hH, hHg⟩ := Acc.lowG (base' := w0.heap.size) D45 (by omega) hpos (by omega)
     have lt_gH := hH.lt
     refine go ?_
     refine x_l2 (fun i => (i = gH ∧ w0.heap.size ≤ i)) [1, 18] (fun (j : Nat) (rs : List HR) => [(19, .int .i64 (j : Int))]) (fun j rs w => (j ≤ V.rs.length) ∧ (Acc encHR 3 70 w0.heap.size w aoQ23 gH cQ23 rs) ∧ (OwnI w0.heap.size w37.heap.size w V j rs)) (fun j rs => V.rs.length - j) 0 V.rs ⟨(Nat.zero_le _), hH, (OwnI.zero _ _ _ _)⟩ ?_
     rintro j rs w47 ⟨hj, hA, hO⟩ u48 zu48 K46 hK46
     have lt_gH := hA.lt
     have hrl := hO.len
     have hgH : rs.length = 0 ∨ w0.heap.size ≤ gH := by
       rcases Nat.eq_zero_or_pos rs.length with h | h
       · exact .inl h
       · exact .inr (hA.ge h)
     refine go ?_
     refine q_p (fun g20 => ?_) fun g20 => ?_
     ·
      refine go ?_
      refine c_drawnM follows (fun i => i = gH) (OTl [0, 2, 4, 6, 8, 10, 12, 14, 17, 19, 20, 22, 25]) (by kernel_rfl) fun w54 u55 => ?_
      have zu55 := u55.size
      refine go ?_
      have D57 := (hA.keep u55 (fun _ h => h))
      refine y_i j (D57.sl (fun _ => rfl)) (fun _ => ?_)
      refine go ?_
      have hnj := hO.rest j (Nat.le_refl _) (by omega)
      refine x_c func90 rfl rfl (by have h9 := cloneC_c (nth V.rs j).c (nth V.rs j).ao (nth V.rs j).g (nth V.rs j).o (nth V.rs j).cp _ ((hI.cs _ (nth_mem (show j < V.rs.length by omega))).keep ((((((E22.u.nx u26).next u30 (fun i hi h => by omega)).next u34 (fun i hi h => by omega)).next u38 (fun i hi h => by omega)).next u48 (fun i hi h => by omega)).nx u55) (fun _ h => h)) (by have := (hcl _ (nth_mem (show j < V.rs.length by omega))); omega) (by omega); rw [← hnj] at h9; exact h9) ?_
      rintro _ w61 ⟨⟨aoQ59, gQ59, cQ59, rfl, haQ59⟩, u62⟩ zu62
      obtain ⟨gz, hz, hzg⟩ := Acc.lowG (base' := w0.heap.size) haQ59 (by omega) hpos (by omega)
      have lt_gz := hz.lt
      refine go ?_
      have D65 := (hA.keep u55 (fun _ h => h))
      refine y_i j (D65.sl (fun _ => rfl)) (fun _ => ?_)
      refine go ?_
      have D67 := (D57.keep u62 (fun _ h => h))
      refine t_storeA (vs := [.slice aoQ59 ((nth rs j).c.length) cQ59]) (j := j) (o' := 2) (k := 3) (⟨(nth rs j).n, (nth rs j).p, aoQ59, gz, 0, cQ59, (nth rs j).c⟩ : HR) (fun _ => rfl) sizeOf64 rfl rfl (by omega) rfl D67 (by first | omega | (simp only [List.length_set, eRuns_len]; omega)) rfl rfl (by decide) (by simp [Value.oneCell']) rfl (fun w68 R70 u69 => ?_)
      have zu69 := u69.size
      refine go ?_
      have D72 := (hz.keep u69 (fun hb => show ¬ (gz = gH) by first | omega | assumption))
      exact hK46 (j + 1) (rs.set j (⟨(nth rs j).n, (nth rs j).p, aoQ59, gz, 0, cQ59, (nth rs j).c⟩ : HR)) ⟨(by omega), R70, (OwnI.next (w := w54) (((hO.keep u55 (fun _ h => h.elim)).keep u62 (fun _ h => h.elim)).keep u69 (fun i h => by omega)) (show j < V.rs.length by omega) D72 (fun hb => by have := hzg hb; omega) (fun i hi => Nat.lt_of_lt_of_le (hO.lt hj i hi) (by omega)))⟩
     refine go ?_
     refine x_b fun bk74 w75 ebk74 sbk74 B76 u77 => ?_
     refine go ?_
     refine f_1 results54 ?_
     have D79 := (hA.keep u77 (fun _ h => h))
     have D80 := ((hL.keep u48 (fun hb => show ¬ ((gL = gH ∧ w0.heap.size ≤ gL)) by first | omega | assumption)).keep u77 (fun _ h => h))
     have D81 := ((hU.keep u48 (fun hb => show ¬ ((gU = gH ∧ w0.heap.size ≤ gU)) by first | omega | assumption)).keep u77 (fun _ h => h))
     have hjn : j = V.rs.length := by omega
     have hO9 := (hO.keep u77 (fun _ h => h.elim))
     rw [hjn] at hO9
     exact ⟨⟨bk74, _, rfl, SeaM.ofOwn hO9 (by omega) (by simpa [SG.cells, hO.len] using B76) D79 D80 D81 (fun h => by omega) (fun _ => by omega) (fun _ => by omega), by simp [SG.st, hO.hul]⟩, u_d⟩
    refine go ?_
    refine x_c func90 rfl rfl (cloneC_c V.un V.au V.gu ou V.cu _ (hus.keep E16.u (fun _ h => h)) (by omega) (by omega)) ?_
    rintro _ w84 ⟨⟨aoQ82, gQ82, cQ82, rfl, haQ82⟩, u85⟩ zu85
    have E87 := Sc.mk (E16.u.nx u85)
    have lt_gQ82 := haQ82.lt
    refine go ?_
    refine x_c func91 rfl rfl (cloneH_c V.rs V.ah V.gh oh V.ch _ (hhs.keep E87.u (fun _ h => h)) (by omega) (by omega)) ?_
    rintro _ w90 ⟨⟨aoQ88, gQ88, cQ88, rfl, haQ88⟩, u91⟩ zu91
    have lt_gQ88 := haQ88.lt
    refine go ?_
    refine x_s fun w94 sw94 B96 u95 => ?_
    refine go ?_
    refine x_s fun w98 sw98 B100 u99 => ?_
    refine go ?_
    refine x_s fun w102 sw102 B104 u103 => ?_
    refine go ?_
    have D108 := (((((haQ11.keep u85 (fun _ h => h)).keep u91 (fun _ h => h)).keep u95 (fun hb => show ¬ (gQ11 = bk2) by first | omega | assumption)).keep u99 (fun hb => show ¬ (gQ11 = bk2) by first | omega | assumption)).keep u103 (fun hb => show ¬ (gQ11 = bk2) by first | omega | assumption))
    obtain ⟨gL, hL, hLg⟩ := Acc.lowG (base' := w0.heap.size) D108 (by omega) hpos (by omega)
    have lt_gL := hL.lt
    have D109 := ((((haQ82.keep u91 (fun _ h => h)).keep u95 (fun hb => show ¬ (gQ82 = bk2) by first | omega | assumption)).keep u99 (fun hb => show ¬ (gQ82 = bk2) by first | omega | assumption)).keep u103 (fun hb => show ¬ (gQ82 = bk2) by first | omega | assumption))
    obtain ⟨gU, hU, hUg⟩ := Acc.lowG (base' := w0.heap.size) D109 (by omega) hpos (by omega)
    have lt_gU := hU.lt
    have D110 := (((haQ88.keep u95 (fun hb => show ¬ (gQ88 = bk2) by first | omega | assumption)).keep u99 (fun hb => show ¬ (gQ88 = bk2) by first | omega | assumption)).keep u103 (fun hb => show ¬ (gQ88 = bk2) by first | omega | assumption))
    obtain ⟨gH, hH, hHg⟩ := Acc.lowG (base' := w0.heap.size) D110 (by omega) hpos (by omega)
    have lt_gH := hH.lt
    refine go ?_
    refine x_l2 (fun i => (i = gH ∧ w0.heap.size ≤ i)) [1, 18] (fun (j : Nat) (rs : List HR) => [(19, .int .i64 (j : Int))]) (fun j rs w => (j ≤ V.rs.length) ∧ (Acc encHR 3 70 w0.heap.size w aoQ88 gH cQ88 rs) ∧ (OwnI w0.heap.size w102.heap.size w V j rs)) (fun j rs => V.rs.length - j) 0 V.rs ⟨(Nat.zero_le _), hH, (OwnI.zero _ _ _ _)⟩ ?_
    rintro j rs w112 ⟨hj, hA, hO⟩ u113 zu113 K111 hK111
    have lt_gH := hA.lt
    have hrl := hO.len
    have hgH : rs.length = 0 ∨ w0.heap.size ≤ gH := by
      rcases Nat.eq_zero_or_pos rs.length with h | h
      · exact .inl h
      · exact .inr (hA.ge h)
    refine go ?_
    refine q_p (fun g20 => ?_) fun g20 => ?_
    ·
     refine go ?_
     refine c_drawnM follows (fun i => i = gH) (OTl [0, 2, 4, 6, 8, 10, 12, 14, 17, 19, 20, 22, 25]) (by kernel_rfl) fun w119 u120 => ?_
     have zu120 := u120.size
     refine go ?_
     have D122 := (hA.keep u120 (fun _ h => h))
     refine y_i j (D122.sl (fun _ => rfl)) (fun _ => ?_)
     refine go ?_
     have hnj := hO.rest j (Nat.le_refl _) (by omega)
     refine x_c func90 rfl rfl (by have h9 := cloneC_c (nth V.rs j).c (nth V.rs j).ao (nth V.rs j).g (nth V.rs j).o (nth V.rs j).cp _ ((hI.cs _ (nth_mem (show j < V.rs.length by omega))).keep ((((((E87.u.nx u91).next u95 (fun i hi h => by omega)).next u99 (fun i hi h => by omega)).next u103 (fun i hi h => by omega)).next u113 (fun i hi h => by omega)).nx u120) (fun _ h => h)) (by have := (hcl _ (nth_mem (show j < V.rs.length by omega))); omega) (by omega); rw [← hnj] at h9; exact h9) ?_
     rintro _ w126 ⟨⟨aoQ124, gQ124, cQ124, rfl, haQ124⟩, u127⟩ zu127
     obtain ⟨gz, hz, hzg⟩ := Acc.lowG (base' := w0.heap.size) haQ124 (by omega) hpos (by omega)
     have lt_gz := hz.lt
     refine go ?_
     have D130 := (hA.keep u120 (fun _ h => h))
     refine y_i j (D130.sl (fun _ => rfl)) (fun _ => ?_)
     refine go ?_
     have D132 := (D122.keep u127 (fun _ h => h))
     refine t_storeA (vs := [.slice aoQ124 ((nth rs j).c.length) cQ124]) (j := j) (o' := 2) (k := 3) (⟨(nth rs j).n, (nth rs j).p, aoQ124, gz, 0, cQ124, (nth rs j).c⟩ : HR) (fun _ => rfl) sizeOf64 rfl rfl (by omega) rfl D132 (by first | omega | (simp only [List.length_set, eRuns_len]; omega)) rfl rfl (by decide) (by simp [Value.oneCell']) rfl (fun w133 R135 u134 => ?_)
     have zu134 := u134.size
     refine go ?_
     have D137 := (hz.keep u134 (fun hb => show ¬ (gz = gH) by first | omega | assumption))
     exact hK111 (j + 1) (rs.set j (⟨(nth rs j).n, (nth rs j).p, aoQ124, gz, 0, cQ124, (nth rs j).c⟩ : HR)) ⟨(by omega), R135, (OwnI.next (w := w119) (((hO.keep u120 (fun _ h => h.elim)).keep u127 (fun _ h => h.elim)).keep u134 (fun i h => by omega)) (show j < V.rs.length by omega) D137 (fun hb => by have := hzg hb; omega) (fun i hi => Nat.lt_of_lt_of_le (hO.lt hj i hi) (by omega)))⟩
    refine go ?_
    refine x_b fun bk139 w140 ebk139 sbk139 B141 u142 => ?_
    refine go ?_
    refine f_1 results54 ?_
    have D144 := (hA.keep u142 (fun _ h => h))
    have D145 := ((hL.keep u113 (fun hb => show ¬ ((gL = gH ∧ w0.heap.size ≤ gL)) by first | omega | assumption)).keep u142 (fun _ h => h))
    have D146 := ((hU.keep u113 (fun hb => show ¬ ((gU = gH ∧ w0.heap.size ≤ gU)) by first | omega | assumption)).keep u142 (fun _ h => h))
    have hjn : j = V.rs.length := by omega
    have hO9 := (hO.keep u142 (fun _ h => h.elim))
    rw [hjn] at hO9
    exact ⟨⟨bk139, _, rfl, SeaM.ofOwn hO9 (by omega) (by simpa [SG.cells, hO.len] using B141) D144 D145 D146 (fun h => by omega) (fun _ => by omega) (fun _ => by omega), by simp [SG.st, hO.hul]⟩, u_d⟩
   refine go ?_
   refine x_c func90 rfl rfl (cloneC_c V.un V.au V.gu ou V.cu _ (hus.keep E16.u (fun _ h => h)) (by omega) (by omega)) ?_
   rintro _ w149 ⟨⟨aoQ147, gQ147, cQ147, rfl, haQ147⟩, u150⟩ zu150
   have E152 := Sc.mk (E16.u.nx u150)
   have lt_gQ147 := haQ147.lt
   refine go ?_
   refine x_c func91 rfl rfl (cloneH_c V.rs V.ah V.gh oh V.ch _ (hhs.keep E152.u (fun _ h => h)) (by omega) (by omega)) ?_
   rintro _ w155 ⟨⟨aoQ153, gQ153, cQ153, rfl, haQ153⟩, u156⟩ zu156
   have lt_gQ153 := haQ153.lt
   refine go ?_
   refine x_s fun w159 sw159 B161 u160 => ?_
   refine go ?_
   refine x_s fun w163 sw163 B165 u164 => ?_
   refine go ?_
   refine x_s fun w167 sw167 B169 u168 => ?_
   refine go ?_
   have D173 := (((((haQ11.keep u150 (fun _ h => h)).keep u156 (fun _ h => h)).keep u160 (fun hb => show ¬ (gQ11 = bk2) by first | omega | assumption)).keep u164 (fun hb => show ¬ (gQ11 = bk2) by first | omega | assumption)).keep u168 (fun hb => show ¬ (gQ11 = bk2) by first | omega | assumption))
   obtain ⟨gL, hL, hLg⟩ := Acc.lowG (base' := w0.heap.size) D173 (by omega) hpos (by omega)
   have lt_gL := hL.lt
   have D174 := ((((haQ147.keep u156 (fun _ h => h)).keep u160 (fun hb => show ¬ (gQ147 = bk2) by first | omega | assumption)).keep u164 (fun hb => show ¬ (gQ147 = bk2) by first | omega | assumption)).keep u168 (fun hb => show ¬ (gQ147 = bk2) by first | omega | assumption))
   obtain ⟨gU, hU, hUg⟩ := Acc.lowG (base' := w0.heap.size) D174 (by omega) hpos (by omega)
   have lt_gU := hU.lt
   have D175 := (((haQ153.keep u160 (fun hb => show ¬ (gQ153 = bk2) by first | omega | assumption)).keep u164 (fun hb => show ¬ (gQ153 = bk2) by first | omega | assumption)).keep u168 (fun hb => show ¬ (gQ153 = bk2) by first | omega | assumption))
   obtain ⟨gH, hH, hHg⟩ := Acc.lowG (base' := w0.heap.size) D175 (by omega) hpos (by omega)
   have lt_gH := hH.lt
   refine go ?_
   refine x_l2 (fun i => (i = gH ∧ w0.heap.size ≤ i)) [1, 18] (fun (j : Nat) (rs : List HR) => [(19, .int .i64 (j : Int))]) (fun j rs w => (j ≤ V.rs.length) ∧ (Acc encHR 3 70 w0.heap.size w aoQ153 gH cQ153 rs) ∧ (OwnI w0.heap.size w167.heap.size w V j rs)) (fun j rs => V.rs.length - j) 0 V.rs ⟨(Nat.zero_le _), hH, (OwnI.zero _ _ _ _)⟩ ?_
   rintro j rs w177 ⟨hj, hA, hO⟩ u178 zu178 K176 hK176
   have lt_gH := hA.lt
   have hrl := hO.len
   have hgH : rs.length = 0 ∨ w0.heap.size ≤ gH := by
     rcases Nat.eq_zero_or_pos rs.length with h | h
     · exact .inl h
     · exact .inr (hA.ge h)
   refine go ?_
   refine q_p (fun g20 => ?_) fun g20 => ?_
   ·
    refine go ?_
    refine c_drawnM follows (fun i => i = gH) (OTl [0, 2, 4, 6, 8, 10, 12, 14, 17, 19, 20, 22, 25]) (by kernel_rfl) fun w184 u185 => ?_
    have zu185 := u185.size
    refine go ?_
    have D187 := (hA.keep u185 (fun _ h => h))
    refine y_i j (D187.sl (fun _ => rfl)) (fun _ => ?_)
    refine go ?_
    have hnj := hO.rest j (Nat.le_refl _) (by omega)
    refine x_c func90 rfl rfl (by have h9 := cloneC_c (nth V.rs j).c (nth V.rs j).ao (nth V.rs j).g (nth V.rs j).o (nth V.rs j).cp _ ((hI.cs _ (nth_mem (show j < V.rs.length by omega))).keep ((((((E152.u.nx u156).next u160 (fun i hi h => by omega)).next u164 (fun i hi h => by omega)).next u168 (fun i hi h => by omega)).next u178 (fun i hi h => by omega)).nx u185) (fun _ h => h)) (by have := (hcl _ (nth_mem (show j < V.rs.length by omega))); omega) (by omega); rw [← hnj] at h9; exact h9) ?_
    rintro _ w191 ⟨⟨aoQ189, gQ189, cQ189, rfl, haQ189⟩, u192⟩ zu192
    obtain ⟨gz, hz, hzg⟩ := Acc.lowG (base' := w0.heap.size) haQ189 (by omega) hpos (by omega)
    have lt_gz := hz.lt
    refine go ?_
    have D195 := (hA.keep u185 (fun _ h => h))
    refine y_i j (D195.sl (fun _ => rfl)) (fun _ => ?_)
    refine go ?_
    have D197 := (D187.keep u192 (fun _ h => h))
    refine t_storeA (vs := [.slice aoQ189 ((nth rs j).c.length) cQ189]) (j := j) (o' := 2) (k := 3) (⟨(nth rs j).n, (nth rs j).p, aoQ189, gz, 0, cQ189, (nth rs j).c⟩ : HR) (fun _ => rfl) sizeOf64 rfl rfl (by omega) rfl D197 (by first | omega | (simp only [List.length_set, eRuns_len]; omega)) rfl rfl (by decide) (by simp [Value.oneCell']) rfl (fun w198 R200 u199 => ?_)
    have zu199 := u199.size
    refine go ?_
    have D202 := (hz.keep u199 (fun hb => show ¬ (gz = gH) by first | omega | assumption))
    exact hK176 (j + 1) (rs.set j (⟨(nth rs j).n, (nth rs j).p, aoQ189, gz, 0, cQ189, (nth rs j).c⟩ : HR)) ⟨(by omega), R200, (OwnI.next (w := w184) (((hO.keep u185 (fun _ h => h.elim)).keep u192 (fun _ h => h.elim)).keep u199 (fun i h => by omega)) (show j < V.rs.length by omega) D202 (fun hb => by have := hzg hb; omega) (fun i hi => Nat.lt_of_lt_of_le (hO.lt hj i hi) (by omega)))⟩
   refine go ?_
   refine x_b fun bk204 w205 ebk204 sbk204 B206 u207 => ?_
   refine go ?_
   refine f_1 results54 ?_
   have D209 := (hA.keep u207 (fun _ h => h))
   have D210 := ((hL.keep u178 (fun hb => show ¬ ((gL = gH ∧ w0.heap.size ≤ gL)) by first | omega | assumption)).keep u207 (fun _ h => h))
   have D211 := ((hU.keep u178 (fun hb => show ¬ ((gU = gH ∧ w0.heap.size ≤ gU)) by first | omega | assumption)).keep u207 (fun _ h => h))
   have hjn : j = V.rs.length := by omega
   have hO9 := (hO.keep u207 (fun _ h => h.elim))
   rw [hjn] at hO9
   exact ⟨⟨bk204, _, rfl, SeaM.ofOwn hO9 (by omega) (by simpa [SG.cells, hO.len] using B206) D209 D210 D211 (fun h => by omega) (fun _ => by omega) (fun _ => by omega), by simp [SG.st, hO.hul]⟩, u_d⟩
  refine s_or ?_ ?_
  ·
   refine go ?_
   refine s_or ?_ ?_
   ·
    refine go ?_
    refine x_c func90 rfl rfl (cloneC_c V.ld V.al V.gl ol V.cl _ (hls.keep E10.u (fun _ h => h)) (by omega) (by omega)) ?_
    rintro _ w214 ⟨⟨aoQ212, gQ212, cQ212, rfl, haQ212⟩, u215⟩ zu215
    have E217 := Sc.mk (E10.u.nx u215)
    have lt_gQ212 := haQ212.lt
    refine go ?_
    refine s_or ?_ ?_
    ·
     refine go ?_
     refine x_c func90 rfl rfl (cloneC_c V.un V.au V.gu ou V.cu _ (hus.keep E217.u (fun _ h => h)) (by omega) (by omega)) ?_
     rintro _ w220 ⟨⟨aoQ218, gQ218, cQ218, rfl, haQ218⟩, u221⟩ zu221
     have E223 := Sc.mk (E217.u.nx u221)
     have lt_gQ218 := haQ218.lt
     refine go ?_
     refine x_c func91 rfl rfl (cloneH_c V.rs V.ah V.gh oh V.ch _ (hhs.keep E223.u (fun _ h => h)) (by omega) (by omega)) ?_
     rintro _ w226 ⟨⟨aoQ224, gQ224, cQ224, rfl, haQ224⟩, u227⟩ zu227
     have lt_gQ224 := haQ224.lt
     refine go ?_
     refine x_s fun w230 sw230 B232 u231 => ?_
     refine go ?_
     refine x_s fun w234 sw234 B236 u235 => ?_
     refine go ?_
     refine x_s fun w238 sw238 B240 u239 => ?_
     refine go ?_
     have D244 := (((((haQ212.keep u221 (fun _ h => h)).keep u227 (fun _ h => h)).keep u231 (fun hb => show ¬ (gQ212 = bk2) by first | omega | assumption)).keep u235 (fun hb => show ¬ (gQ212 = bk2) by first | omega | assumption)).keep u239 (fun hb => show ¬ (gQ212 = bk2) by first | omega | assumption))
     obtain ⟨gL, hL, hLg⟩ := Acc.lowG (base' := w0.heap.size) D244 (by omega) hpos (by omega)
     have lt_gL := hL.lt
     have D245 := ((((haQ218.keep u227 (fun _ h => h)).keep u231 (fun hb => show ¬ (gQ218 = bk2) by first | omega | assumption)).keep u235 (fun hb => show ¬ (gQ218 = bk2) by first | omega | assumption)).keep u239 (fun hb => show ¬ (gQ218 = bk2) by first | omega | assumption))
     obtain ⟨gU, hU, hUg⟩ := Acc.lowG (base' := w0.heap.size) D245 (by omega) hpos (by omega)
     have lt_gU := hU.lt
     have D246 := (((haQ224.keep u231 (fun hb => show ¬ (gQ224 = bk2) by first | omega | assumption)).keep u235 (fun hb => show ¬ (gQ224 = bk2) by first | omega | assumption)).keep u239 (fun hb => show ¬ (gQ224 = bk2) by first | omega | assumption))
     obtain ⟨gH, hH, hHg⟩ := Acc.lowG (base' := w0.heap.size) D246 (by omega) hpos (by omega)
     have lt_gH := hH.lt
     refine go ?_
     refine x_l2 (fun i => (i = gH ∧ w0.heap.size ≤ i)) [1, 18] (fun (j : Nat) (rs : List HR) => [(19, .int .i64 (j : Int))]) (fun j rs w => (j ≤ V.rs.length) ∧ (Acc encHR 3 70 w0.heap.size w aoQ224 gH cQ224 rs) ∧ (OwnI w0.heap.size w238.heap.size w V j rs)) (fun j rs => V.rs.length - j) 0 V.rs ⟨(Nat.zero_le _), hH, (OwnI.zero _ _ _ _)⟩ ?_
     rintro j rs w248 ⟨hj, hA, hO⟩ u249 zu249 K247 hK247
     have lt_gH := hA.lt
     have hrl := hO.len
     have hgH : rs.length = 0 ∨ w0.heap.size ≤ gH := by
       rcases Nat.eq_zero_or_pos rs.length with h | h
       · exact .inl h
       · exact .inr (hA.ge h)
     refine go ?_
     refine q_p (fun g20 => ?_) fun g20 => ?_
     ·
      refine go ?_
      refine c_drawnM follows (fun i => i = gH) (OTl [0, 2, 4, 6, 8, 10, 12, 14, 17, 19, 20, 22, 25]) (by kernel_rfl) fun w255 u256 => ?_
      have zu256 := u256.size
      refine go ?_
      have D258 := (hA.keep u256 (fun _ h => h))
      refine y_i j (D258.sl (fun _ => rfl)) (fun _ => ?_)
      refine go ?_
      have hnj := hO.rest j (Nat.le_refl _) (by omega)
      refine x_c func90 rfl rfl (by have h9 := cloneC_c (nth V.rs j).c (nth V.rs j).ao (nth V.rs j).g (nth V.rs j).o (nth V.rs j).cp _ ((hI.cs _ (nth_mem (show j < V.rs.length by omega))).keep ((((((E223.u.nx u227).next u231 (fun i hi h => by omega)).next u235 (fun i hi h => by omega)).next u239 (fun i hi h => by omega)).next u249 (fun i hi h => by omega)).nx u256) (fun _ h => h)) (by have := (hcl _ (nth_mem (show j < V.rs.length by omega))); omega) (by omega); rw [← hnj] at h9; exact h9) ?_
      rintro _ w262 ⟨⟨aoQ260, gQ260, cQ260, rfl, haQ260⟩, u263⟩ zu263
      obtain ⟨gz, hz, hzg⟩ := Acc.lowG (base' := w0.heap.size) haQ260 (by omega) hpos (by omega)
      have lt_gz := hz.lt
      refine go ?_
      have D266 := (hA.keep u256 (fun _ h => h))
      refine y_i j (D266.sl (fun _ => rfl)) (fun _ => ?_)
      refine go ?_
      have D268 := (D258.keep u263 (fun _ h => h))
      refine t_storeA (vs := [.slice aoQ260 ((nth rs j).c.length) cQ260]) (j := j) (o' := 2) (k := 3) (⟨(nth rs j).n, (nth rs j).p, aoQ260, gz, 0, cQ260, (nth rs j).c⟩ : HR) (fun _ => rfl) sizeOf64 rfl rfl (by omega) rfl D268 (by first | omega | (simp only [List.length_set, eRuns_len]; omega)) rfl rfl (by decide) (by simp [Value.oneCell']) rfl (fun w269 R271 u270 => ?_)
      have zu270 := u270.size
      refine go ?_
      have D273 := (hz.keep u270 (fun hb => show ¬ (gz = gH) by first | omega | assumption))
      exact hK247 (j + 1) (rs.set j (⟨(nth rs j).n, (nth rs j).p, aoQ260, gz, 0, cQ260, (nth rs j).c⟩ : HR)) ⟨(by omega), R271, (OwnI.next (w := w255) (((hO.keep u256 (fun _ h => h.elim)).keep u263 (fun _ h => h.elim)).keep u270 (fun i h => by omega)) (show j < V.rs.length by omega) D273 (fun hb => by have := hzg hb; omega) (fun i hi => Nat.lt_of_lt_of_le (hO.lt hj i hi) (by omega)))⟩
     refine go ?_
     refine x_b fun bk275 w276 ebk275 sbk275 B277 u278 => ?_
     refine go ?_
     refine f_1 results54 ?_
     have D280 := (hA.keep u278 (fun _ h => h))
     have D281 := ((hL.keep u249 (fun hb => show ¬ ((gL = gH ∧ w0.heap.size ≤ gL)) by first | omega | assumption)).keep u278 (fun _ h => h))
     have D282 := ((hU.keep u249 (fun hb => show ¬ ((gU = gH ∧ w0.heap.size ≤ gU)) by first | omega | assumption)).keep u278 (fun _ h => h))
     have hjn : j = V.rs.length := by omega
     have hO9 := (hO.keep u278 (fun _ h => h.elim))
     rw [hjn] at hO9
     exact ⟨⟨bk275, _, rfl, SeaM.ofOwn hO9 (by omega) (by simpa [SG.cells, hO.len] using B277) D280 D281 D282 (fun h => by omega) (fun _ => by omega) (fun _ => by omega), by simp [SG.st, hO.hul]⟩, u_d⟩
    refine go ?_
    refine x_c func90 rfl rfl (cloneC_c V.un V.au V.gu ou V.cu _ (hus.keep E217.u (fun _ h => h)) (by omega) (by omega)) ?_
    rintro _ w285 ⟨⟨aoQ283, gQ283, cQ283, rfl, haQ283⟩, u286⟩ zu286
    have E288 := Sc.mk (E217.u.nx u286)
    have lt_gQ283 := haQ283.lt
    refine go ?_
    refine x_c func91 rfl rfl (cloneH_c V.rs V.ah V.gh oh V.ch _ (hhs.keep E288.u (fun _ h => h)) (by omega) (by omega)) ?_
    rintro _ w291 ⟨⟨aoQ289, gQ289, cQ289, rfl, haQ289⟩, u292⟩ zu292
    have lt_gQ289 := haQ289.lt
    refine go ?_
    refine x_s fun w295 sw295 B297 u296 => ?_
    refine go ?_
    refine x_s fun w299 sw299 B301 u300 => ?_
    refine go ?_
    refine x_s fun w303 sw303 B305 u304 => ?_
    refine go ?_
    have D309 := (((((haQ212.keep u286 (fun _ h => h)).keep u292 (fun _ h => h)).keep u296 (fun hb => show ¬ (gQ212 = bk2) by first | omega | assumption)).keep u300 (fun hb => show ¬ (gQ212 = bk2) by first | omega | assumption)).keep u304 (fun hb => show ¬ (gQ212 = bk2) by first | omega | assumption))
    obtain ⟨gL, hL, hLg⟩ := Acc.lowG (base' := w0.heap.size) D309 (by omega) hpos (by omega)
    have lt_gL := hL.lt
    have D310 := ((((haQ283.keep u292 (fun _ h => h)).keep u296 (fun hb => show ¬ (gQ283 = bk2) by first | omega | assumption)).keep u300 (fun hb => show ¬ (gQ283 = bk2) by first | omega | assumption)).keep u304 (fun hb => show ¬ (gQ283 = bk2) by first | omega | assumption))
    obtain ⟨gU, hU, hUg⟩ := Acc.lowG (base' := w0.heap.size) D310 (by omega) hpos (by omega)
    have lt_gU := hU.lt
    have D311 := (((haQ289.keep u296 (fun hb => show ¬ (gQ289 = bk2) by first | omega | assumption)).keep u300 (fun hb => show ¬ (gQ289 = bk2) by first | omega | assumption)).keep u304 (fun hb => show ¬ (gQ289 = bk2) by first | omega | assumption))
    obtain ⟨gH, hH, hHg⟩ := Acc.lowG (base' := w0.heap.size) D311 (by omega) hpos (by omega)
    have lt_gH := hH.lt
    refine go ?_
    refine x_l2 (fun i => (i = gH ∧ w0.heap.size ≤ i)) [1, 18] (fun (j : Nat) (rs : List HR) => [(19, .int .i64 (j : Int))]) (fun j rs w => (j ≤ V.rs.length) ∧ (Acc encHR 3 70 w0.heap.size w aoQ289 gH cQ289 rs) ∧ (OwnI w0.heap.size w303.heap.size w V j rs)) (fun j rs => V.rs.length - j) 0 V.rs ⟨(Nat.zero_le _), hH, (OwnI.zero _ _ _ _)⟩ ?_
    rintro j rs w313 ⟨hj, hA, hO⟩ u314 zu314 K312 hK312
    have lt_gH := hA.lt
    have hrl := hO.len
    have hgH : rs.length = 0 ∨ w0.heap.size ≤ gH := by
      rcases Nat.eq_zero_or_pos rs.length with h | h
      · exact .inl h
      · exact .inr (hA.ge h)
    refine go ?_
    refine q_p (fun g20 => ?_) fun g20 => ?_
    ·
     refine go ?_
     refine c_drawnM follows (fun i => i = gH) (OTl [0, 2, 4, 6, 8, 10, 12, 14, 17, 19, 20, 22, 25]) (by kernel_rfl) fun w320 u321 => ?_
     have zu321 := u321.size
     refine go ?_
     have D323 := (hA.keep u321 (fun _ h => h))
     refine y_i j (D323.sl (fun _ => rfl)) (fun _ => ?_)
     refine go ?_
     have hnj := hO.rest j (Nat.le_refl _) (by omega)
     refine x_c func90 rfl rfl (by have h9 := cloneC_c (nth V.rs j).c (nth V.rs j).ao (nth V.rs j).g (nth V.rs j).o (nth V.rs j).cp _ ((hI.cs _ (nth_mem (show j < V.rs.length by omega))).keep ((((((E288.u.nx u292).next u296 (fun i hi h => by omega)).next u300 (fun i hi h => by omega)).next u304 (fun i hi h => by omega)).next u314 (fun i hi h => by omega)).nx u321) (fun _ h => h)) (by have := (hcl _ (nth_mem (show j < V.rs.length by omega))); omega) (by omega); rw [← hnj] at h9; exact h9) ?_
     rintro _ w327 ⟨⟨aoQ325, gQ325, cQ325, rfl, haQ325⟩, u328⟩ zu328
     obtain ⟨gz, hz, hzg⟩ := Acc.lowG (base' := w0.heap.size) haQ325 (by omega) hpos (by omega)
     have lt_gz := hz.lt
     refine go ?_
     have D331 := (hA.keep u321 (fun _ h => h))
     refine y_i j (D331.sl (fun _ => rfl)) (fun _ => ?_)
     refine go ?_
     have D333 := (D323.keep u328 (fun _ h => h))
     refine t_storeA (vs := [.slice aoQ325 ((nth rs j).c.length) cQ325]) (j := j) (o' := 2) (k := 3) (⟨(nth rs j).n, (nth rs j).p, aoQ325, gz, 0, cQ325, (nth rs j).c⟩ : HR) (fun _ => rfl) sizeOf64 rfl rfl (by omega) rfl D333 (by first | omega | (simp only [List.length_set, eRuns_len]; omega)) rfl rfl (by decide) (by simp [Value.oneCell']) rfl (fun w334 R336 u335 => ?_)
     have zu335 := u335.size
     refine go ?_
     have D338 := (hz.keep u335 (fun hb => show ¬ (gz = gH) by first | omega | assumption))
     exact hK312 (j + 1) (rs.set j (⟨(nth rs j).n, (nth rs j).p, aoQ325, gz, 0, cQ325, (nth rs j).c⟩ : HR)) ⟨(by omega), R336, (OwnI.next (w := w320) (((hO.keep u321 (fun _ h => h.elim)).keep u328 (fun _ h => h.elim)).keep u335 (fun i h => by omega)) (show j < V.rs.length by omega) D338 (fun hb => by have := hzg hb; omega) (fun i hi => Nat.lt_of_lt_of_le (hO.lt hj i hi) (by omega)))⟩
    refine go ?_
    refine x_b fun bk340 w341 ebk340 sbk340 B342 u343 => ?_
    refine go ?_
    refine f_1 results54 ?_
    have D345 := (hA.keep u343 (fun _ h => h))
    have D346 := ((hL.keep u314 (fun hb => show ¬ ((gL = gH ∧ w0.heap.size ≤ gL)) by first | omega | assumption)).keep u343 (fun _ h => h))
    have D347 := ((hU.keep u314 (fun hb => show ¬ ((gU = gH ∧ w0.heap.size ≤ gU)) by first | omega | assumption)).keep u343 (fun _ h => h))
    have hjn : j = V.rs.length := by omega
    have hO9 := (hO.keep u343 (fun _ h => h.elim))
    rw [hjn] at hO9
    exact ⟨⟨bk340, _, rfl, SeaM.ofOwn hO9 (by omega) (by simpa [SG.cells, hO.len] using B342) D345 D346 D347 (fun h => by omega) (fun _ => by omega) (fun _ => by omega), by simp [SG.st, hO.hul]⟩, u_d⟩
   refine go ?_
   refine x_c func90 rfl rfl (cloneC_c V.ld V.al V.gl ol V.cl _ (hls.keep E10.u (fun _ h => h)) (by omega) (by omega)) ?_
   rintro _ w350 ⟨⟨aoQ348, gQ348, cQ348, rfl, haQ348⟩, u351⟩ zu351
   have E353 := Sc.mk (E10.u.nx u351)
   have lt_gQ348 := haQ348.lt
   refine go ?_
   refine x_c func90 rfl rfl (cloneC_c V.un V.au V.gu ou V.cu _ (hus.keep E353.u (fun _ h => h)) (by omega) (by omega)) ?_
   rintro _ w356 ⟨⟨aoQ354, gQ354, cQ354, rfl, haQ354⟩, u357⟩ zu357
   have E359 := Sc.mk (E353.u.nx u357)
   have lt_gQ354 := haQ354.lt
   refine go ?_
   refine x_c func91 rfl rfl (cloneH_c V.rs V.ah V.gh oh V.ch _ (hhs.keep E359.u (fun _ h => h)) (by omega) (by omega)) ?_
   rintro _ w362 ⟨⟨aoQ360, gQ360, cQ360, rfl, haQ360⟩, u363⟩ zu363
   have lt_gQ360 := haQ360.lt
   refine go ?_
   refine x_s fun w366 sw366 B368 u367 => ?_
   refine go ?_
   refine x_s fun w370 sw370 B372 u371 => ?_
   refine go ?_
   refine x_s fun w374 sw374 B376 u375 => ?_
   refine go ?_
   have D380 := (((((haQ348.keep u357 (fun _ h => h)).keep u363 (fun _ h => h)).keep u367 (fun hb => show ¬ (gQ348 = bk2) by first | omega | assumption)).keep u371 (fun hb => show ¬ (gQ348 = bk2) by first | omega | assumption)).keep u375 (fun hb => show ¬ (gQ348 = bk2) by first | omega | assumption))
   obtain ⟨gL, hL, hLg⟩ := Acc.lowG (base' := w0.heap.size) D380 (by omega) hpos (by omega)
   have lt_gL := hL.lt
   have D381 := ((((haQ354.keep u363 (fun _ h => h)).keep u367 (fun hb => show ¬ (gQ354 = bk2) by first | omega | assumption)).keep u371 (fun hb => show ¬ (gQ354 = bk2) by first | omega | assumption)).keep u375 (fun hb => show ¬ (gQ354 = bk2) by first | omega | assumption))
   obtain ⟨gU, hU, hUg⟩ := Acc.lowG (base' := w0.heap.size) D381 (by omega) hpos (by omega)
   have lt_gU := hU.lt
   have D382 := (((haQ360.keep u367 (fun hb => show ¬ (gQ360 = bk2) by first | omega | assumption)).keep u371 (fun hb => show ¬ (gQ360 = bk2) by first | omega | assumption)).keep u375 (fun hb => show ¬ (gQ360 = bk2) by first | omega | assumption))
   obtain ⟨gH, hH, hHg⟩ := Acc.lowG (base' := w0.heap.size) D382 (by omega) hpos (by omega)
   have lt_gH := hH.lt
   refine go ?_
   refine x_l2 (fun i => (i = gH ∧ w0.heap.size ≤ i)) [1, 18] (fun (j : Nat) (rs : List HR) => [(19, .int .i64 (j : Int))]) (fun j rs w => (j ≤ V.rs.length) ∧ (Acc encHR 3 70 w0.heap.size w aoQ360 gH cQ360 rs) ∧ (OwnI w0.heap.size w374.heap.size w V j rs)) (fun j rs => V.rs.length - j) 0 V.rs ⟨(Nat.zero_le _), hH, (OwnI.zero _ _ _ _)⟩ ?_
   rintro j rs w384 ⟨hj, hA, hO⟩ u385 zu385 K383 hK383
   have lt_gH := hA.lt
   have hrl := hO.len
   have hgH : rs.length = 0 ∨ w0.heap.size ≤ gH := by
     rcases Nat.eq_zero_or_pos rs.length with h | h
     · exact .inl h
     · exact .inr (hA.ge h)
   refine go ?_
   refine q_p (fun g20 => ?_) fun g20 => ?_
   ·
    refine go ?_
    refine c_drawnM follows (fun i => i = gH) (OTl [0, 2, 4, 6, 8, 10, 12, 14, 17, 19, 20, 22, 25]) (by kernel_rfl) fun w391 u392 => ?_
    have zu392 := u392.size
    refine go ?_
    have D394 := (hA.keep u392 (fun _ h => h))
    refine y_i j (D394.sl (fun _ => rfl)) (fun _ => ?_)
    refine go ?_
    have hnj := hO.rest j (Nat.le_refl _) (by omega)
    refine x_c func90 rfl rfl (by have h9 := cloneC_c (nth V.rs j).c (nth V.rs j).ao (nth V.rs j).g (nth V.rs j).o (nth V.rs j).cp _ ((hI.cs _ (nth_mem (show j < V.rs.length by omega))).keep ((((((E359.u.nx u363).next u367 (fun i hi h => by omega)).next u371 (fun i hi h => by omega)).next u375 (fun i hi h => by omega)).next u385 (fun i hi h => by omega)).nx u392) (fun _ h => h)) (by have := (hcl _ (nth_mem (show j < V.rs.length by omega))); omega) (by omega); rw [← hnj] at h9; exact h9) ?_
    rintro _ w398 ⟨⟨aoQ396, gQ396, cQ396, rfl, haQ396⟩, u399⟩ zu399
    obtain ⟨gz, hz, hzg⟩ := Acc.lowG (base' := w0.heap.size) haQ396 (by omega) hpos (by omega)
    have lt_gz := hz.lt
    refine go ?_
    have D402 := (hA.keep u392 (fun _ h => h))
    refine y_i j (D402.sl (fun _ => rfl)) (fun _ => ?_)
    refine go ?_
    have D404 := (D394.keep u399 (fun _ h => h))
    refine t_storeA (vs := [.slice aoQ396 ((nth rs j).c.length) cQ396]) (j := j) (o' := 2) (k := 3) (⟨(nth rs j).n, (nth rs j).p, aoQ396, gz, 0, cQ396, (nth rs j).c⟩ : HR) (fun _ => rfl) sizeOf64 rfl rfl (by omega) rfl D404 (by first | omega | (simp only [List.length_set, eRuns_len]; omega)) rfl rfl (by decide) (by simp [Value.oneCell']) rfl (fun w405 R407 u406 => ?_)
    have zu406 := u406.size
    refine go ?_
    have D409 := (hz.keep u406 (fun hb => show ¬ (gz = gH) by first | omega | assumption))
    exact hK383 (j + 1) (rs.set j (⟨(nth rs j).n, (nth rs j).p, aoQ396, gz, 0, cQ396, (nth rs j).c⟩ : HR)) ⟨(by omega), R407, (OwnI.next (w := w391) (((hO.keep u392 (fun _ h => h.elim)).keep u399 (fun _ h => h.elim)).keep u406 (fun i h => by omega)) (show j < V.rs.length by omega) D409 (fun hb => by have := hzg hb; omega) (fun i hi => Nat.lt_of_lt_of_le (hO.lt hj i hi) (by omega)))⟩
   refine go ?_
   refine x_b fun bk411 w412 ebk411 sbk411 B413 u414 => ?_
   refine go ?_
   refine f_1 results54 ?_
   have D416 := (hA.keep u414 (fun _ h => h))
   have D417 := ((hL.keep u385 (fun hb => show ¬ ((gL = gH ∧ w0.heap.size ≤ gL)) by first | omega | assumption)).keep u414 (fun _ h => h))
   have D418 := ((hU.keep u385 (fun hb => show ¬ ((gU = gH ∧ w0.heap.size ≤ gU)) by first | omega | assumption)).keep u414 (fun _ h => h))
   have hjn : j = V.rs.length := by omega
   have hO9 := (hO.keep u414 (fun _ h => h.elim))
   rw [hjn] at hO9
   exact ⟨⟨bk411, _, rfl, SeaM.ofOwn hO9 (by omega) (by simpa [SG.cells, hO.len] using B413) D416 D417 D418 (fun h => by omega) (fun _ => by omega) (fun _ => by omega), by simp [SG.st, hO.hul]⟩, u_d⟩
  refine go ?_
  refine s_or ?_ ?_
  ·
   refine go ?_
   refine x_c func90 rfl rfl (cloneC_c V.ld V.al V.gl ol V.cl _ (hls.keep E10.u (fun _ h => h)) (by omega) (by omega)) ?_
   rintro _ w421 ⟨⟨aoQ419, gQ419, cQ419, rfl, haQ419⟩, u422⟩ zu422
   have E424 := Sc.mk (E10.u.nx u422)
   have lt_gQ419 := haQ419.lt
   refine go ?_
   refine x_c func90 rfl rfl (cloneC_c V.un V.au V.gu ou V.cu _ (hus.keep E424.u (fun _ h => h)) (by omega) (by omega)) ?_
   rintro _ w427 ⟨⟨aoQ425, gQ425, cQ425, rfl, haQ425⟩, u428⟩ zu428
   have E430 := Sc.mk (E424.u.nx u428)
   have lt_gQ425 := haQ425.lt
   refine go ?_
   refine x_c func91 rfl rfl (cloneH_c V.rs V.ah V.gh oh V.ch _ (hhs.keep E430.u (fun _ h => h)) (by omega) (by omega)) ?_
   rintro _ w433 ⟨⟨aoQ431, gQ431, cQ431, rfl, haQ431⟩, u434⟩ zu434
   have lt_gQ431 := haQ431.lt
   refine go ?_
   refine x_s fun w437 sw437 B439 u438 => ?_
   refine go ?_
   refine x_s fun w441 sw441 B443 u442 => ?_
   refine go ?_
   refine x_s fun w445 sw445 B447 u446 => ?_
   refine go ?_
   have D451 := (((((haQ419.keep u428 (fun _ h => h)).keep u434 (fun _ h => h)).keep u438 (fun hb => show ¬ (gQ419 = bk2) by first | omega | assumption)).keep u442 (fun hb => show ¬ (gQ419 = bk2) by first | omega | assumption)).keep u446 (fun hb => show ¬ (gQ419 = bk2) by first | omega | assumption))
   obtain ⟨gL, hL, hLg⟩ := Acc.lowG (base' := w0.heap.size) D451 (by omega) hpos (by omega)
   have lt_gL := hL.lt
   have D452 := ((((haQ425.keep u434 (fun _ h => h)).keep u438 (fun hb => show ¬ (gQ425 = bk2) by first | omega | assumption)).keep u442 (fun hb => show ¬ (gQ425 = bk2) by first | omega | assumption)).keep u446 (fun hb => show ¬ (gQ425 = bk2) by first | omega | assumption))
   obtain ⟨gU, hU, hUg⟩ := Acc.lowG (base' := w0.heap.size) D452 (by omega) hpos (by omega)
   have lt_gU := hU.lt
   have D453 := (((haQ431.keep u438 (fun hb => show ¬ (gQ431 = bk2) by first | omega | assumption)).keep u442 (fun hb => show ¬ (gQ431 = bk2) by first | omega | assumption)).keep u446 (fun hb => show ¬ (gQ431 = bk2) by first | omega | assumption))
   obtain ⟨gH, hH, hHg⟩ := Acc.lowG (base' := w0.heap.size) D453 (by omega) hpos (by omega)
   have lt_gH := hH.lt
   refine go ?_
   refine x_l2 (fun i => (i = gH ∧ w0.heap.size ≤ i)) [1, 18] (fun (j : Nat) (rs : List HR) => [(19, .int .i64 (j : Int))]) (fun j rs w => (j ≤ V.rs.length) ∧ (Acc encHR 3 70 w0.heap.size w aoQ431 gH cQ431 rs) ∧ (OwnI w0.heap.size w445.heap.size w V j rs)) (fun j rs => V.rs.length - j) 0 V.rs ⟨(Nat.zero_le _), hH, (OwnI.zero _ _ _ _)⟩ ?_
   rintro j rs w455 ⟨hj, hA, hO⟩ u456 zu456 K454 hK454
   have lt_gH := hA.lt
   have hrl := hO.len
   have hgH : rs.length = 0 ∨ w0.heap.size ≤ gH := by
     rcases Nat.eq_zero_or_pos rs.length with h | h
     · exact .inl h
     · exact .inr (hA.ge h)
   refine go ?_
   refine q_p (fun g20 => ?_) fun g20 => ?_
   ·
    refine go ?_
    refine c_drawnM follows (fun i => i = gH) (OTl [0, 2, 4, 6, 8, 10, 12, 14, 17, 19, 20, 22, 25]) (by kernel_rfl) fun w462 u463 => ?_
    have zu463 := u463.size
    refine go ?_
    have D465 := (hA.keep u463 (fun _ h => h))
    refine y_i j (D465.sl (fun _ => rfl)) (fun _ => ?_)
    refine go ?_
    have hnj := hO.rest j (Nat.le_refl _) (by omega)
    refine x_c func90 rfl rfl (by have h9 := cloneC_c (nth V.rs j).c (nth V.rs j).ao (nth V.rs j).g (nth V.rs j).o (nth V.rs j).cp _ ((hI.cs _ (nth_mem (show j < V.rs.length by omega))).keep ((((((E430.u.nx u434).next u438 (fun i hi h => by omega)).next u442 (fun i hi h => by omega)).next u446 (fun i hi h => by omega)).next u456 (fun i hi h => by omega)).nx u463) (fun _ h => h)) (by have := (hcl _ (nth_mem (show j < V.rs.length by omega))); omega) (by omega); rw [← hnj] at h9; exact h9) ?_
    rintro _ w469 ⟨⟨aoQ467, gQ467, cQ467, rfl, haQ467⟩, u470⟩ zu470
    obtain ⟨gz, hz, hzg⟩ := Acc.lowG (base' := w0.heap.size) haQ467 (by omega) hpos (by omega)
    have lt_gz := hz.lt
    refine go ?_
    have D473 := (hA.keep u463 (fun _ h => h))
    refine y_i j (D473.sl (fun _ => rfl)) (fun _ => ?_)
    refine go ?_
    have D475 := (D465.keep u470 (fun _ h => h))
    refine t_storeA (vs := [.slice aoQ467 ((nth rs j).c.length) cQ467]) (j := j) (o' := 2) (k := 3) (⟨(nth rs j).n, (nth rs j).p, aoQ467, gz, 0, cQ467, (nth rs j).c⟩ : HR) (fun _ => rfl) sizeOf64 rfl rfl (by omega) rfl D475 (by first | omega | (simp only [List.length_set, eRuns_len]; omega)) rfl rfl (by decide) (by simp [Value.oneCell']) rfl (fun w476 R478 u477 => ?_)
    have zu477 := u477.size
    refine go ?_
    have D480 := (hz.keep u477 (fun hb => show ¬ (gz = gH) by first | omega | assumption))
    exact hK454 (j + 1) (rs.set j (⟨(nth rs j).n, (nth rs j).p, aoQ467, gz, 0, cQ467, (nth rs j).c⟩ : HR)) ⟨(by omega), R478, (OwnI.next (w := w462) (((hO.keep u463 (fun _ h => h.elim)).keep u470 (fun _ h => h.elim)).keep u477 (fun i h => by omega)) (show j < V.rs.length by omega) D480 (fun hb => by have := hzg hb; omega) (fun i hi => Nat.lt_of_lt_of_le (hO.lt hj i hi) (by omega)))⟩
   refine go ?_
   refine x_b fun bk482 w483 ebk482 sbk482 B484 u485 => ?_
   refine go ?_
   refine f_1 results54 ?_
   have D487 := (hA.keep u485 (fun _ h => h))
   have D488 := ((hL.keep u456 (fun hb => show ¬ ((gL = gH ∧ w0.heap.size ≤ gL)) by first | omega | assumption)).keep u485 (fun _ h => h))
   have D489 := ((hU.keep u456 (fun hb => show ¬ ((gU = gH ∧ w0.heap.size ≤ gU)) by first | omega | assumption)).keep u485 (fun _ h => h))
   have hjn : j = V.rs.length := by omega
   have hO9 := (hO.keep u485 (fun _ h => h.elim))
   rw [hjn] at hO9
   exact ⟨⟨bk482, _, rfl, SeaM.ofOwn hO9 (by omega) (by simpa [SG.cells, hO.len] using B484) D487 D488 D489 (fun h => by omega) (fun _ => by omega) (fun _ => by omega), by simp [SG.st, hO.hul]⟩, u_d⟩
  refine go ?_
  refine x_c func90 rfl rfl (cloneC_c V.ld V.al V.gl ol V.cl _ (hls.keep E10.u (fun _ h => h)) (by omega) (by omega)) ?_
  rintro _ w492 ⟨⟨aoQ490, gQ490, cQ490, rfl, haQ490⟩, u493⟩ zu493
  have E495 := Sc.mk (E10.u.nx u493)
  have lt_gQ490 := haQ490.lt
  refine go ?_
  refine x_c func90 rfl rfl (cloneC_c V.un V.au V.gu ou V.cu _ (hus.keep E495.u (fun _ h => h)) (by omega) (by omega)) ?_
  rintro _ w498 ⟨⟨aoQ496, gQ496, cQ496, rfl, haQ496⟩, u499⟩ zu499
  have E501 := Sc.mk (E495.u.nx u499)
  have lt_gQ496 := haQ496.lt
  refine go ?_
  refine x_c func91 rfl rfl (cloneH_c V.rs V.ah V.gh oh V.ch _ (hhs.keep E501.u (fun _ h => h)) (by omega) (by omega)) ?_
  rintro _ w504 ⟨⟨aoQ502, gQ502, cQ502, rfl, haQ502⟩, u505⟩ zu505
  have lt_gQ502 := haQ502.lt
  refine go ?_
  refine x_s fun w508 sw508 B510 u509 => ?_
  refine go ?_
  refine x_s fun w512 sw512 B514 u513 => ?_
  refine go ?_
  refine x_s fun w516 sw516 B518 u517 => ?_
  refine go ?_
  have D522 := (((((haQ490.keep u499 (fun _ h => h)).keep u505 (fun _ h => h)).keep u509 (fun hb => show ¬ (gQ490 = bk2) by first | omega | assumption)).keep u513 (fun hb => show ¬ (gQ490 = bk2) by first | omega | assumption)).keep u517 (fun hb => show ¬ (gQ490 = bk2) by first | omega | assumption))
  obtain ⟨gL, hL, hLg⟩ := Acc.lowG (base' := w0.heap.size) D522 (by omega) hpos (by omega)
  have lt_gL := hL.lt
  have D523 := ((((haQ496.keep u505 (fun _ h => h)).keep u509 (fun hb => show ¬ (gQ496 = bk2) by first | omega | assumption)).keep u513 (fun hb => show ¬ (gQ496 = bk2) by first | omega | assumption)).keep u517 (fun hb => show ¬ (gQ496 = bk2) by first | omega | assumption))
  obtain ⟨gU, hU, hUg⟩ := Acc.lowG (base' := w0.heap.size) D523 (by omega) hpos (by omega)
  have lt_gU := hU.lt
  have D524 := (((haQ502.keep u509 (fun hb => show ¬ (gQ502 = bk2) by first | omega | assumption)).keep u513 (fun hb => show ¬ (gQ502 = bk2) by first | omega | assumption)).keep u517 (fun hb => show ¬ (gQ502 = bk2) by first | omega | assumption))
  obtain ⟨gH, hH, hHg⟩ := Acc.lowG (base' := w0.heap.size) D524 (by omega) hpos (by omega)
  have lt_gH := hH.lt
  refine go ?_
  refine x_l2 (fun i => (i = gH ∧ w0.heap.size ≤ i)) [1, 18] (fun (j : Nat) (rs : List HR) => [(19, .int .i64 (j : Int))]) (fun j rs w => (j ≤ V.rs.length) ∧ (Acc encHR 3 70 w0.heap.size w aoQ502 gH cQ502 rs) ∧ (OwnI w0.heap.size w516.heap.size w V j rs)) (fun j rs => V.rs.length - j) 0 V.rs ⟨(Nat.zero_le _), hH, (OwnI.zero _ _ _ _)⟩ ?_
  rintro j rs w526 ⟨hj, hA, hO⟩ u527 zu527 K525 hK525
  have lt_gH := hA.lt
  have hrl := hO.len
  have hgH : rs.length = 0 ∨ w0.heap.size ≤ gH := by
    rcases Nat.eq_zero_or_pos rs.length with h | h
    · exact .inl h
    · exact .inr (hA.ge h)
  refine go ?_
  refine q_p (fun g20 => ?_) fun g20 => ?_
  ·
   refine go ?_
   refine c_drawnM follows (fun i => i = gH) (OTl [0, 2, 4, 6, 8, 10, 12, 14, 17, 19, 20, 22, 25]) (by kernel_rfl) fun w533 u534 => ?_
   have zu534 := u534.size
   refine go ?_
   have D536 := (hA.keep u534 (fun _ h => h))
   refine y_i j (D536.sl (fun _ => rfl)) (fun _ => ?_)
   refine go ?_
   have hnj := hO.rest j (Nat.le_refl _) (by omega)
   refine x_c func90 rfl rfl (by have h9 := cloneC_c (nth V.rs j).c (nth V.rs j).ao (nth V.rs j).g (nth V.rs j).o (nth V.rs j).cp _ ((hI.cs _ (nth_mem (show j < V.rs.length by omega))).keep ((((((E501.u.nx u505).next u509 (fun i hi h => by omega)).next u513 (fun i hi h => by omega)).next u517 (fun i hi h => by omega)).next u527 (fun i hi h => by omega)).nx u534) (fun _ h => h)) (by have := (hcl _ (nth_mem (show j < V.rs.length by omega))); omega) (by omega); rw [← hnj] at h9; exact h9) ?_
   rintro _ w540 ⟨⟨aoQ538, gQ538, cQ538, rfl, haQ538⟩, u541⟩ zu541
   obtain ⟨gz, hz, hzg⟩ := Acc.lowG (base' := w0.heap.size) haQ538 (by omega) hpos (by omega)
   have lt_gz := hz.lt
   refine go ?_
   have D544 := (hA.keep u534 (fun _ h => h))
   refine y_i j (D544.sl (fun _ => rfl)) (fun _ => ?_)
   refine go ?_
   have D546 := (D536.keep u541 (fun _ h => h))
   refine t_storeA (vs := [.slice aoQ538 ((nth rs j).c.length) cQ538]) (j := j) (o' := 2) (k := 3) (⟨(nth rs j).n, (nth rs j).p, aoQ538, gz, 0, cQ538, (nth rs j).c⟩ : HR) (fun _ => rfl) sizeOf64 rfl rfl (by omega) rfl D546 (by first | omega | (simp only [List.length_set, eRuns_len]; omega)) rfl rfl (by decide) (by simp [Value.oneCell']) rfl (fun w547 R549 u548 => ?_)
   have zu548 := u548.size
   refine go ?_
   have D551 := (hz.keep u548 (fun hb => show ¬ (gz = gH) by first | omega | assumption))
   exact hK525 (j + 1) (rs.set j (⟨(nth rs j).n, (nth rs j).p, aoQ538, gz, 0, cQ538, (nth rs j).c⟩ : HR)) ⟨(by omega), R549, (OwnI.next (w := w533) (((hO.keep u534 (fun _ h => h.elim)).keep u541 (fun _ h => h.elim)).keep u548 (fun i h => by omega)) (show j < V.rs.length by omega) D551 (fun hb => by have := hzg hb; omega) (fun i hi => Nat.lt_of_lt_of_le (hO.lt hj i hi) (by omega)))⟩
  refine go ?_
  refine x_b fun bk553 w554 ebk553 sbk553 B555 u556 => ?_
  refine go ?_
  refine f_1 results54 ?_
  have D558 := (hA.keep u556 (fun _ h => h))
  have D559 := ((hL.keep u527 (fun hb => show ¬ ((gL = gH ∧ w0.heap.size ≤ gL)) by first | omega | assumption)).keep u556 (fun _ h => h))
  have D560 := ((hU.keep u527 (fun hb => show ¬ ((gU = gH ∧ w0.heap.size ≤ gU)) by first | omega | assumption)).keep u556 (fun _ h => h))
  have hjn : j = V.rs.length := by omega
  have hO9 := (hO.keep u556 (fun _ h => h.elim))
  rw [hjn] at hO9
  exact ⟨⟨bk553, _, rfl, SeaM.ofOwn hO9 (by omega) (by simpa [SG.cells, hO.len] using B555) D558 D559 D560 (fun h => by omega) (fun _ => by omega) (fun _ => by omega), by simp [SG.st, hO.hul]⟩, u_d⟩
 refine s_or ?_ ?_
 ·
  refine go ?_
  refine s_or ?_ ?_
  ·
   refine go ?_
   refine s_or ?_ ?_
   ·
    refine go ?_
    refine x_c func90 rfl rfl (cloneC_c V.ld V.al V.gl ol V.cl _ (hls.keep E10.u (fun _ h => h)) (by omega) (by omega)) ?_
    rintro _ w563 ⟨⟨aoQ561, gQ561, cQ561, rfl, haQ561⟩, u564⟩ zu564
    have E566 := Sc.mk (E10.u.nx u564)
    have lt_gQ561 := haQ561.lt
    refine go ?_
    refine s_or ?_ ?_
    ·
     refine go ?_
     refine x_c func90 rfl rfl (cloneC_c V.un V.au V.gu ou V.cu _ (hus.keep E566.u (fun _ h => h)) (by omega) (by omega)) ?_
     rintro _ w569 ⟨⟨aoQ567, gQ567, cQ567, rfl, haQ567⟩, u570⟩ zu570
     have E572 := Sc.mk (E566.u.nx u570)
     have lt_gQ567 := haQ567.lt
     refine go ?_
     refine x_c func91 rfl rfl (cloneH_c V.rs V.ah V.gh oh V.ch _ (hhs.keep E572.u (fun _ h => h)) (by omega) (by omega)) ?_
     rintro _ w575 ⟨⟨aoQ573, gQ573, cQ573, rfl, haQ573⟩, u576⟩ zu576
     have lt_gQ573 := haQ573.lt
     refine go ?_
     refine x_s fun w579 sw579 B581 u580 => ?_
     refine go ?_
     refine x_s fun w583 sw583 B585 u584 => ?_
     refine go ?_
     refine x_s fun w587 sw587 B589 u588 => ?_
     refine go ?_
     have D593 := (((((haQ561.keep u570 (fun _ h => h)).keep u576 (fun _ h => h)).keep u580 (fun hb => show ¬ (gQ561 = bk2) by first | omega | assumption)).keep u584 (fun hb => show ¬ (gQ561 = bk2) by first | omega | assumption)).keep u588 (fun hb => show ¬ (gQ561 = bk2) by first | omega | assumption))
     obtain ⟨gL, hL, hLg⟩ := Acc.lowG (base' := w0.heap.size) D593 (by omega) hpos (by omega)
     have lt_gL := hL.lt
     have D594 := ((((haQ567.keep u576 (fun _ h => h)).keep u580 (fun hb => show ¬ (gQ567 = bk2) by first | omega | assumption)).keep u584 (fun hb => show ¬ (gQ567 = bk2) by first | omega | assumption)).keep u588 (fun hb => show ¬ (gQ567 = bk2) by first | omega | assumption))
     obtain ⟨gU, hU, hUg⟩ := Acc.lowG (base' := w0.heap.size) D594 (by omega) hpos (by omega)
     have lt_gU := hU.lt
     have D595 := (((haQ573.keep u580 (fun hb => show ¬ (gQ573 = bk2) by first | omega | assumption)).keep u584 (fun hb => show ¬ (gQ573 = bk2) by first | omega | assumption)).keep u588 (fun hb => show ¬ (gQ573 = bk2) by first | omega | assumption))
     obtain ⟨gH, hH, hHg⟩ := Acc.lowG (base' := w0.heap.size) D595 (by omega) hpos (by omega)
     have lt_gH := hH.lt
     refine go ?_
     refine x_l2 (fun i => (i = gH ∧ w0.heap.size ≤ i)) [1, 18] (fun (j : Nat) (rs : List HR) => [(19, .int .i64 (j : Int))]) (fun j rs w => (j ≤ V.rs.length) ∧ (Acc encHR 3 70 w0.heap.size w aoQ573 gH cQ573 rs) ∧ (OwnI w0.heap.size w587.heap.size w V j rs)) (fun j rs => V.rs.length - j) 0 V.rs ⟨(Nat.zero_le _), hH, (OwnI.zero _ _ _ _)⟩ ?_
     rintro j rs w597 ⟨hj, hA, hO⟩ u598 zu598 K596 hK596
     have lt_gH := hA.lt
     have hrl := hO.len
     have hgH : rs.length = 0 ∨ w0.heap.size ≤ gH := by
       rcases Nat.eq_zero_or_pos rs.length with h | h
       · exact .inl h
       · exact .inr (hA.ge h)
     refine go ?_
     refine q_p (fun g20 => ?_) fun g20 => ?_
     ·
      refine go ?_
      refine c_drawnM follows (fun i => i = gH) (OTl [0, 2, 4, 6, 8, 10, 12, 14, 17, 19, 20, 22, 25]) (by kernel_rfl) fun w604 u605 => ?_
      have zu605 := u605.size
      refine go ?_
      have D607 := (hA.keep u605 (fun _ h => h))
      refine y_i j (D607.sl (fun _ => rfl)) (fun _ => ?_)
      refine go ?_
      have hnj := hO.rest j (Nat.le_refl _) (by omega)
      refine x_c func90 rfl rfl (by have h9 := cloneC_c (nth V.rs j).c (nth V.rs j).ao (nth V.rs j).g (nth V.rs j).o (nth V.rs j).cp _ ((hI.cs _ (nth_mem (show j < V.rs.length by omega))).keep ((((((E572.u.nx u576).next u580 (fun i hi h => by omega)).next u584 (fun i hi h => by omega)).next u588 (fun i hi h => by omega)).next u598 (fun i hi h => by omega)).nx u605) (fun _ h => h)) (by have := (hcl _ (nth_mem (show j < V.rs.length by omega))); omega) (by omega); rw [← hnj] at h9; exact h9) ?_
      rintro _ w611 ⟨⟨aoQ609, gQ609, cQ609, rfl, haQ609⟩, u612⟩ zu612
      obtain ⟨gz, hz, hzg⟩ := Acc.lowG (base' := w0.heap.size) haQ609 (by omega) hpos (by omega)
      have lt_gz := hz.lt
      refine go ?_
      have D615 := (hA.keep u605 (fun _ h => h))
      refine y_i j (D615.sl (fun _ => rfl)) (fun _ => ?_)
      refine go ?_
      have D617 := (D607.keep u612 (fun _ h => h))
      refine t_storeA (vs := [.slice aoQ609 ((nth rs j).c.length) cQ609]) (j := j) (o' := 2) (k := 3) (⟨(nth rs j).n, (nth rs j).p, aoQ609, gz, 0, cQ609, (nth rs j).c⟩ : HR) (fun _ => rfl) sizeOf64 rfl rfl (by omega) rfl D617 (by first | omega | (simp only [List.length_set, eRuns_len]; omega)) rfl rfl (by decide) (by simp [Value.oneCell']) rfl (fun w618 R620 u619 => ?_)
      have zu619 := u619.size
      refine go ?_
      have D622 := (hz.keep u619 (fun hb => show ¬ (gz = gH) by first | omega | assumption))
      exact hK596 (j + 1) (rs.set j (⟨(nth rs j).n, (nth rs j).p, aoQ609, gz, 0, cQ609, (nth rs j).c⟩ : HR)) ⟨(by omega), R620, (OwnI.next (w := w604) (((hO.keep u605 (fun _ h => h.elim)).keep u612 (fun _ h => h.elim)).keep u619 (fun i h => by omega)) (show j < V.rs.length by omega) D622 (fun hb => by have := hzg hb; omega) (fun i hi => Nat.lt_of_lt_of_le (hO.lt hj i hi) (by omega)))⟩
     refine go ?_
     refine x_b fun bk624 w625 ebk624 sbk624 B626 u627 => ?_
     refine go ?_
     refine f_1 results54 ?_
     have D629 := (hA.keep u627 (fun _ h => h))
     have D630 := ((hL.keep u598 (fun hb => show ¬ ((gL = gH ∧ w0.heap.size ≤ gL)) by first | omega | assumption)).keep u627 (fun _ h => h))
     have D631 := ((hU.keep u598 (fun hb => show ¬ ((gU = gH ∧ w0.heap.size ≤ gU)) by first | omega | assumption)).keep u627 (fun _ h => h))
     have hjn : j = V.rs.length := by omega
     have hO9 := (hO.keep u627 (fun _ h => h.elim))
     rw [hjn] at hO9
     exact ⟨⟨bk624, _, rfl, SeaM.ofOwn hO9 (by omega) (by simpa [SG.cells, hO.len] using B626) D629 D630 D631 (fun h => by omega) (fun _ => by omega) (fun _ => by omega), by simp [SG.st, hO.hul]⟩, u_d⟩
    refine go ?_
    refine x_c func90 rfl rfl (cloneC_c V.un V.au V.gu ou V.cu _ (hus.keep E566.u (fun _ h => h)) (by omega) (by omega)) ?_
    rintro _ w634 ⟨⟨aoQ632, gQ632, cQ632, rfl, haQ632⟩, u635⟩ zu635
    have E637 := Sc.mk (E566.u.nx u635)
    have lt_gQ632 := haQ632.lt
    refine go ?_
    refine x_c func91 rfl rfl (cloneH_c V.rs V.ah V.gh oh V.ch _ (hhs.keep E637.u (fun _ h => h)) (by omega) (by omega)) ?_
    rintro _ w640 ⟨⟨aoQ638, gQ638, cQ638, rfl, haQ638⟩, u641⟩ zu641
    have lt_gQ638 := haQ638.lt
    refine go ?_
    refine x_s fun w644 sw644 B646 u645 => ?_
    refine go ?_
    refine x_s fun w648 sw648 B650 u649 => ?_
    refine go ?_
    refine x_s fun w652 sw652 B654 u653 => ?_
    refine go ?_
    have D658 := (((((haQ561.keep u635 (fun _ h => h)).keep u641 (fun _ h => h)).keep u645 (fun hb => show ¬ (gQ561 = bk2) by first | omega | assumption)).keep u649 (fun hb => show ¬ (gQ561 = bk2) by first | omega | assumption)).keep u653 (fun hb => show ¬ (gQ561 = bk2) by first | omega | assumption))
    obtain ⟨gL, hL, hLg⟩ := Acc.lowG (base' := w0.heap.size) D658 (by omega) hpos (by omega)
    have lt_gL := hL.lt
    have D659 := ((((haQ632.keep u641 (fun _ h => h)).keep u645 (fun hb => show ¬ (gQ632 = bk2) by first | omega | assumption)).keep u649 (fun hb => show ¬ (gQ632 = bk2) by first | omega | assumption)).keep u653 (fun hb => show ¬ (gQ632 = bk2) by first | omega | assumption))
    obtain ⟨gU, hU, hUg⟩ := Acc.lowG (base' := w0.heap.size) D659 (by omega) hpos (by omega)
    have lt_gU := hU.lt
    have D660 := (((haQ638.keep u645 (fun hb => show ¬ (gQ638 = bk2) by first | omega | assumption)).keep u649 (fun hb => show ¬ (gQ638 = bk2) by first | omega | assumption)).keep u653 (fun hb => show ¬ (gQ638 = bk2) by first | omega | assumption))
    obtain ⟨gH, hH, hHg⟩ := Acc.lowG (base' := w0.heap.size) D660 (by omega) hpos (by omega)
    have lt_gH := hH.lt
    refine go ?_
    refine x_l2 (fun i => (i = gH ∧ w0.heap.size ≤ i)) [1, 18] (fun (j : Nat) (rs : List HR) => [(19, .int .i64 (j : Int))]) (fun j rs w => (j ≤ V.rs.length) ∧ (Acc encHR 3 70 w0.heap.size w aoQ638 gH cQ638 rs) ∧ (OwnI w0.heap.size w652.heap.size w V j rs)) (fun j rs => V.rs.length - j) 0 V.rs ⟨(Nat.zero_le _), hH, (OwnI.zero _ _ _ _)⟩ ?_
    rintro j rs w662 ⟨hj, hA, hO⟩ u663 zu663 K661 hK661
    have lt_gH := hA.lt
    have hrl := hO.len
    have hgH : rs.length = 0 ∨ w0.heap.size ≤ gH := by
      rcases Nat.eq_zero_or_pos rs.length with h | h
      · exact .inl h
      · exact .inr (hA.ge h)
    refine go ?_
    refine q_p (fun g20 => ?_) fun g20 => ?_
    ·
     refine go ?_
     refine c_drawnM follows (fun i => i = gH) (OTl [0, 2, 4, 6, 8, 10, 12, 14, 17, 19, 20, 22, 25]) (by kernel_rfl) fun w669 u670 => ?_
     have zu670 := u670.size
     refine go ?_
     have D672 := (hA.keep u670 (fun _ h => h))
     refine y_i j (D672.sl (fun _ => rfl)) (fun _ => ?_)
     refine go ?_
     have hnj := hO.rest j (Nat.le_refl _) (by omega)
     refine x_c func90 rfl rfl (by have h9 := cloneC_c (nth V.rs j).c (nth V.rs j).ao (nth V.rs j).g (nth V.rs j).o (nth V.rs j).cp _ ((hI.cs _ (nth_mem (show j < V.rs.length by omega))).keep ((((((E637.u.nx u641).next u645 (fun i hi h => by omega)).next u649 (fun i hi h => by omega)).next u653 (fun i hi h => by omega)).next u663 (fun i hi h => by omega)).nx u670) (fun _ h => h)) (by have := (hcl _ (nth_mem (show j < V.rs.length by omega))); omega) (by omega); rw [← hnj] at h9; exact h9) ?_
     rintro _ w676 ⟨⟨aoQ674, gQ674, cQ674, rfl, haQ674⟩, u677⟩ zu677
     obtain ⟨gz, hz, hzg⟩ := Acc.lowG (base' := w0.heap.size) haQ674 (by omega) hpos (by omega)
     have lt_gz := hz.lt
     refine go ?_
     have D680 := (hA.keep u670 (fun _ h => h))
     refine y_i j (D680.sl (fun _ => rfl)) (fun _ => ?_)
     refine go ?_
     have D682 := (D672.keep u677 (fun _ h => h))
     refine t_storeA (vs := [.slice aoQ674 ((nth rs j).c.length) cQ674]) (j := j) (o' := 2) (k := 3) (⟨(nth rs j).n, (nth rs j).p, aoQ674, gz, 0, cQ674, (nth rs j).c⟩ : HR) (fun _ => rfl) sizeOf64 rfl rfl (by omega) rfl D682 (by first | omega | (simp only [List.length_set, eRuns_len]; omega)) rfl rfl (by decide) (by simp [Value.oneCell']) rfl (fun w683 R685 u684 => ?_)
     have zu684 := u684.size
     refine go ?_
     have D687 := (hz.keep u684 (fun hb => show ¬ (gz = gH) by first | omega | assumption))
     exact hK661 (j + 1) (rs.set j (⟨(nth rs j).n, (nth rs j).p, aoQ674, gz, 0, cQ674, (nth rs j).c⟩ : HR)) ⟨(by omega), R685, (OwnI.next (w := w669) (((hO.keep u670 (fun _ h => h.elim)).keep u677 (fun _ h => h.elim)).keep u684 (fun i h => by omega)) (show j < V.rs.length by omega) D687 (fun hb => by have := hzg hb; omega) (fun i hi => Nat.lt_of_lt_of_le (hO.lt hj i hi) (by omega)))⟩
    refine go ?_
    refine x_b fun bk689 w690 ebk689 sbk689 B691 u692 => ?_
    refine go ?_
    refine f_1 results54 ?_
    have D694 := (hA.keep u692 (fun _ h => h))
    have D695 := ((hL.keep u663 (fun hb => show ¬ ((gL = gH ∧ w0.heap.size ≤ gL)) by first | omega | assumption)).keep u692 (fun _ h => h))
    have D696 := ((hU.keep u663 (fun hb => show ¬ ((gU = gH ∧ w0.heap.size ≤ gU)) by first | omega | assumption)).keep u692 (fun _ h => h))
    have hjn : j = V.rs.length := by omega
    have hO9 := (hO.keep u692 (fun _ h => h.elim))
    rw [hjn] at hO9
    exact ⟨⟨bk689, _, rfl, SeaM.ofOwn hO9 (by omega) (by simpa [SG.cells, hO.len] using B691) D694 D695 D696 (fun h => by omega) (fun _ => by omega) (fun _ => by omega), by simp [SG.st, hO.hul]⟩, u_d⟩
   refine go ?_
   refine x_c func90 rfl rfl (cloneC_c V.ld V.al V.gl ol V.cl _ (hls.keep E10.u (fun _ h => h)) (by omega) (by omega)) ?_
   rintro _ w699 ⟨⟨aoQ697, gQ697, cQ697, rfl, haQ697⟩, u700⟩ zu700
   have E702 := Sc.mk (E10.u.nx u700)
   have lt_gQ697 := haQ697.lt
   refine go ?_
   refine x_c func90 rfl rfl (cloneC_c V.un V.au V.gu ou V.cu _ (hus.keep E702.u (fun _ h => h)) (by omega) (by omega)) ?_
   rintro _ w705 ⟨⟨aoQ703, gQ703, cQ703, rfl, haQ703⟩, u706⟩ zu706
   have E708 := Sc.mk (E702.u.nx u706)
   have lt_gQ703 := haQ703.lt
   refine go ?_
   refine x_c func91 rfl rfl (cloneH_c V.rs V.ah V.gh oh V.ch _ (hhs.keep E708.u (fun _ h => h)) (by omega) (by omega)) ?_
   rintro _ w711 ⟨⟨aoQ709, gQ709, cQ709, rfl, haQ709⟩, u712⟩ zu712
   have lt_gQ709 := haQ709.lt
   refine go ?_
   refine x_s fun w715 sw715 B717 u716 => ?_
   refine go ?_
   refine x_s fun w719 sw719 B721 u720 => ?_
   refine go ?_
   refine x_s fun w723 sw723 B725 u724 => ?_
   refine go ?_
   have D729 := (((((haQ697.keep u706 (fun _ h => h)).keep u712 (fun _ h => h)).keep u716 (fun hb => show ¬ (gQ697 = bk2) by first | omega | assumption)).keep u720 (fun hb => show ¬ (gQ697 = bk2) by first | omega | assumption)).keep u724 (fun hb => show ¬ (gQ697 = bk2) by first | omega | assumption))
   obtain ⟨gL, hL, hLg⟩ := Acc.lowG (base' := w0.heap.size) D729 (by omega) hpos (by omega)
   have lt_gL := hL.lt
   have D730 := ((((haQ703.keep u712 (fun _ h => h)).keep u716 (fun hb => show ¬ (gQ703 = bk2) by first | omega | assumption)).keep u720 (fun hb => show ¬ (gQ703 = bk2) by first | omega | assumption)).keep u724 (fun hb => show ¬ (gQ703 = bk2) by first | omega | assumption))
   obtain ⟨gU, hU, hUg⟩ := Acc.lowG (base' := w0.heap.size) D730 (by omega) hpos (by omega)
   have lt_gU := hU.lt
   have D731 := (((haQ709.keep u716 (fun hb => show ¬ (gQ709 = bk2) by first | omega | assumption)).keep u720 (fun hb => show ¬ (gQ709 = bk2) by first | omega | assumption)).keep u724 (fun hb => show ¬ (gQ709 = bk2) by first | omega | assumption))
   obtain ⟨gH, hH, hHg⟩ := Acc.lowG (base' := w0.heap.size) D731 (by omega) hpos (by omega)
   have lt_gH := hH.lt
   refine go ?_
   refine x_l2 (fun i => (i = gH ∧ w0.heap.size ≤ i)) [1, 18] (fun (j : Nat) (rs : List HR) => [(19, .int .i64 (j : Int))]) (fun j rs w => (j ≤ V.rs.length) ∧ (Acc encHR 3 70 w0.heap.size w aoQ709 gH cQ709 rs) ∧ (OwnI w0.heap.size w723.heap.size w V j rs)) (fun j rs => V.rs.length - j) 0 V.rs ⟨(Nat.zero_le _), hH, (OwnI.zero _ _ _ _)⟩ ?_
   rintro j rs w733 ⟨hj, hA, hO⟩ u734 zu734 K732 hK732
   have lt_gH := hA.lt
   have hrl := hO.len
   have hgH : rs.length = 0 ∨ w0.heap.size ≤ gH := by
     rcases Nat.eq_zero_or_pos rs.length with h | h
     · exact .inl h
     · exact .inr (hA.ge h)
   refine go ?_
   refine q_p (fun g20 => ?_) fun g20 => ?_
   ·
    refine go ?_
    refine c_drawnM follows (fun i => i = gH) (OTl [0, 2, 4, 6, 8, 10, 12, 14, 17, 19, 20, 22, 25]) (by kernel_rfl) fun w740 u741 => ?_
    have zu741 := u741.size
    refine go ?_
    have D743 := (hA.keep u741 (fun _ h => h))
    refine y_i j (D743.sl (fun _ => rfl)) (fun _ => ?_)
    refine go ?_
    have hnj := hO.rest j (Nat.le_refl _) (by omega)
    refine x_c func90 rfl rfl (by have h9 := cloneC_c (nth V.rs j).c (nth V.rs j).ao (nth V.rs j).g (nth V.rs j).o (nth V.rs j).cp _ ((hI.cs _ (nth_mem (show j < V.rs.length by omega))).keep ((((((E708.u.nx u712).next u716 (fun i hi h => by omega)).next u720 (fun i hi h => by omega)).next u724 (fun i hi h => by omega)).next u734 (fun i hi h => by omega)).nx u741) (fun _ h => h)) (by have := (hcl _ (nth_mem (show j < V.rs.length by omega))); omega) (by omega); rw [← hnj] at h9; exact h9) ?_
    rintro _ w747 ⟨⟨aoQ745, gQ745, cQ745, rfl, haQ745⟩, u748⟩ zu748
    obtain ⟨gz, hz, hzg⟩ := Acc.lowG (base' := w0.heap.size) haQ745 (by omega) hpos (by omega)
    have lt_gz := hz.lt
    refine go ?_
    have D751 := (hA.keep u741 (fun _ h => h))
    refine y_i j (D751.sl (fun _ => rfl)) (fun _ => ?_)
    refine go ?_
    have D753 := (D743.keep u748 (fun _ h => h))
    refine t_storeA (vs := [.slice aoQ745 ((nth rs j).c.length) cQ745]) (j := j) (o' := 2) (k := 3) (⟨(nth rs j).n, (nth rs j).p, aoQ745, gz, 0, cQ745, (nth rs j).c⟩ : HR) (fun _ => rfl) sizeOf64 rfl rfl (by omega) rfl D753 (by first | omega | (simp only [List.length_set, eRuns_len]; omega)) rfl rfl (by decide) (by simp [Value.oneCell']) rfl (fun w754 R756 u755 => ?_)
    have zu755 := u755.size
    refine go ?_
    have D758 := (hz.keep u755 (fun hb => show ¬ (gz = gH) by first | omega | assumption))
    exact hK732 (j + 1) (rs.set j (⟨(nth rs j).n, (nth rs j).p, aoQ745, gz, 0, cQ745, (nth rs j).c⟩ : HR)) ⟨(by omega), R756, (OwnI.next (w := w740) (((hO.keep u741 (fun _ h => h.elim)).keep u748 (fun _ h => h.elim)).keep u755 (fun i h => by omega)) (show j < V.rs.length by omega) D758 (fun hb => by have := hzg hb; omega) (fun i hi => Nat.lt_of_lt_of_le (hO.lt hj i hi) (by omega)))⟩
   refine go ?_
   refine x_b fun bk760 w761 ebk760 sbk760 B762 u763 => ?_
   refine go ?_
   refine f_1 results54 ?_
   have D765 := (hA.keep u763 (fun _ h => h))
   have D766 := ((hL.keep u734 (fun hb => show ¬ ((gL = gH ∧ w0.heap.size ≤ gL)) by first | omega | assumption)).keep u763 (fun _ h => h))
   have D767 := ((hU.keep u734 (fun hb => show ¬ ((gU = gH ∧ w0.heap.size ≤ gU)) by first | omega | assumption)).keep u763 (fun _ h => h))
   have hjn : j = V.rs.length := by omega
   have hO9 := (hO.keep u763 (fun _ h => h.elim))
   rw [hjn] at hO9
   exact ⟨⟨bk760, _, rfl, SeaM.ofOwn hO9 (by omega) (by simpa [SG.cells, hO.len] using B762) D765 D766 D767 (fun h => by omega) (fun _ => by omega) (fun _ => by omega), by simp [SG.st, hO.hul]⟩, u_d⟩
  refine go ?_
  refine x_c func90 rfl rfl (cloneC_c V.ld V.al V.gl ol V.cl _ (hls.keep E10.u (fun _ h => h)) (by omega) (by omega)) ?_
  rintro _ w770 ⟨⟨aoQ768, gQ768, cQ768, rfl, haQ768⟩, u771⟩ zu771
  have E773 := Sc.mk (E10.u.nx u771)
  have lt_gQ768 := haQ768.lt
  refine go ?_
  refine x_c func90 rfl rfl (cloneC_c V.un V.au V.gu ou V.cu _ (hus.keep E773.u (fun _ h => h)) (by omega) (by omega)) ?_
  rintro _ w776 ⟨⟨aoQ774, gQ774, cQ774, rfl, haQ774⟩, u777⟩ zu777
  have E779 := Sc.mk (E773.u.nx u777)
  have lt_gQ774 := haQ774.lt
  refine go ?_
  refine x_c func91 rfl rfl (cloneH_c V.rs V.ah V.gh oh V.ch _ (hhs.keep E779.u (fun _ h => h)) (by omega) (by omega)) ?_
  rintro _ w782 ⟨⟨aoQ780, gQ780, cQ780, rfl, haQ780⟩, u783⟩ zu783
  have lt_gQ780 := haQ780.lt
  refine go ?_
  refine x_s fun w786 sw786 B788 u787 => ?_
  refine go ?_
  refine x_s fun w790 sw790 B792 u791 => ?_
  refine go ?_
  refine x_s fun w794 sw794 B796 u795 => ?_
  refine go ?_
  have D800 := (((((haQ768.keep u777 (fun _ h => h)).keep u783 (fun _ h => h)).keep u787 (fun hb => show ¬ (gQ768 = bk2) by first | omega | assumption)).keep u791 (fun hb => show ¬ (gQ768 = bk2) by first | omega | assumption)).keep u795 (fun hb => show ¬ (gQ768 = bk2) by first | omega | assumption))
  obtain ⟨gL, hL, hLg⟩ := Acc.lowG (base' := w0.heap.size) D800 (by omega) hpos (by omega)
  have lt_gL := hL.lt
  have D801 := ((((haQ774.keep u783 (fun _ h => h)).keep u787 (fun hb => show ¬ (gQ774 = bk2) by first | omega | assumption)).keep u791 (fun hb => show ¬ (gQ774 = bk2) by first | omega | assumption)).keep u795 (fun hb => show ¬ (gQ774 = bk2) by first | omega | assumption))
  obtain ⟨gU, hU, hUg⟩ := Acc.lowG (base' := w0.heap.size) D801 (by omega) hpos (by omega)
  have lt_gU := hU.lt
  have D802 := (((haQ780.keep u787 (fun hb => show ¬ (gQ780 = bk2) by first | omega | assumption)).keep u791 (fun hb => show ¬ (gQ780 = bk2) by first | omega | assumption)).keep u795 (fun hb => show ¬ (gQ780 = bk2) by first | omega | assumption))
  obtain ⟨gH, hH, hHg⟩ := Acc.lowG (base' := w0.heap.size) D802 (by omega) hpos (by omega)
  have lt_gH := hH.lt
  refine go ?_
  refine x_l2 (fun i => (i = gH ∧ w0.heap.size ≤ i)) [1, 18] (fun (j : Nat) (rs : List HR) => [(19, .int .i64 (j : Int))]) (fun j rs w => (j ≤ V.rs.length) ∧ (Acc encHR 3 70 w0.heap.size w aoQ780 gH cQ780 rs) ∧ (OwnI w0.heap.size w794.heap.size w V j rs)) (fun j rs => V.rs.length - j) 0 V.rs ⟨(Nat.zero_le _), hH, (OwnI.zero _ _ _ _)⟩ ?_
  rintro j rs w804 ⟨hj, hA, hO⟩ u805 zu805 K803 hK803
  have lt_gH := hA.lt
  have hrl := hO.len
  have hgH : rs.length = 0 ∨ w0.heap.size ≤ gH := by
    rcases Nat.eq_zero_or_pos rs.length with h | h
    · exact .inl h
    · exact .inr (hA.ge h)
  refine go ?_
  refine q_p (fun g20 => ?_) fun g20 => ?_
  ·
   refine go ?_
   refine c_drawnM follows (fun i => i = gH) (OTl [0, 2, 4, 6, 8, 10, 12, 14, 17, 19, 20, 22, 25]) (by kernel_rfl) fun w811 u812 => ?_
   have zu812 := u812.size
   refine go ?_
   have D814 := (hA.keep u812 (fun _ h => h))
   refine y_i j (D814.sl (fun _ => rfl)) (fun _ => ?_)
   refine go ?_
   have hnj := hO.rest j (Nat.le_refl _) (by omega)
   refine x_c func90 rfl rfl (by have h9 := cloneC_c (nth V.rs j).c (nth V.rs j).ao (nth V.rs j).g (nth V.rs j).o (nth V.rs j).cp _ ((hI.cs _ (nth_mem (show j < V.rs.length by omega))).keep ((((((E779.u.nx u783).next u787 (fun i hi h => by omega)).next u791 (fun i hi h => by omega)).next u795 (fun i hi h => by omega)).next u805 (fun i hi h => by omega)).nx u812) (fun _ h => h)) (by have := (hcl _ (nth_mem (show j < V.rs.length by omega))); omega) (by omega); rw [← hnj] at h9; exact h9) ?_
   rintro _ w818 ⟨⟨aoQ816, gQ816, cQ816, rfl, haQ816⟩, u819⟩ zu819
   obtain ⟨gz, hz, hzg⟩ := Acc.lowG (base' := w0.heap.size) haQ816 (by omega) hpos (by omega)
   have lt_gz := hz.lt
   refine go ?_
   have D822 := (hA.keep u812 (fun _ h => h))
   refine y_i j (D822.sl (fun _ => rfl)) (fun _ => ?_)
   refine go ?_
   have D824 := (D814.keep u819 (fun _ h => h))
   refine t_storeA (vs := [.slice aoQ816 ((nth rs j).c.length) cQ816]) (j := j) (o' := 2) (k := 3) (⟨(nth rs j).n, (nth rs j).p, aoQ816, gz, 0, cQ816, (nth rs j).c⟩ : HR) (fun _ => rfl) sizeOf64 rfl rfl (by omega) rfl D824 (by first | omega | (simp only [List.length_set, eRuns_len]; omega)) rfl rfl (by decide) (by simp [Value.oneCell']) rfl (fun w825 R827 u826 => ?_)
   have zu826 := u826.size
   refine go ?_
   have D829 := (hz.keep u826 (fun hb => show ¬ (gz = gH) by first | omega | assumption))
   exact hK803 (j + 1) (rs.set j (⟨(nth rs j).n, (nth rs j).p, aoQ816, gz, 0, cQ816, (nth rs j).c⟩ : HR)) ⟨(by omega), R827, (OwnI.next (w := w811) (((hO.keep u812 (fun _ h => h.elim)).keep u819 (fun _ h => h.elim)).keep u826 (fun i h => by omega)) (show j < V.rs.length by omega) D829 (fun hb => by have := hzg hb; omega) (fun i hi => Nat.lt_of_lt_of_le (hO.lt hj i hi) (by omega)))⟩
  refine go ?_
  refine x_b fun bk831 w832 ebk831 sbk831 B833 u834 => ?_
  refine go ?_
  refine f_1 results54 ?_
  have D836 := (hA.keep u834 (fun _ h => h))
  have D837 := ((hL.keep u805 (fun hb => show ¬ ((gL = gH ∧ w0.heap.size ≤ gL)) by first | omega | assumption)).keep u834 (fun _ h => h))
  have D838 := ((hU.keep u805 (fun hb => show ¬ ((gU = gH ∧ w0.heap.size ≤ gU)) by first | omega | assumption)).keep u834 (fun _ h => h))
  have hjn : j = V.rs.length := by omega
  have hO9 := (hO.keep u834 (fun _ h => h.elim))
  rw [hjn] at hO9
  exact ⟨⟨bk831, _, rfl, SeaM.ofOwn hO9 (by omega) (by simpa [SG.cells, hO.len] using B833) D836 D837 D838 (fun h => by omega) (fun _ => by omega) (fun _ => by omega), by simp [SG.st, hO.hul]⟩, u_d⟩
 refine go ?_
 refine s_or ?_ ?_
 ·
  refine go ?_
  refine s_or ?_ ?_
  ·
   refine go ?_
   refine x_c func90 rfl rfl (cloneC_c V.ld V.al V.gl ol V.cl _ (hls.keep E10.u (fun _ h => h)) (by omega) (by omega)) ?_
   rintro _ w841 ⟨⟨aoQ839, gQ839, cQ839, rfl, haQ839⟩, u842⟩ zu842
   have E844 := Sc.mk (E10.u.nx u842)
   have lt_gQ839 := haQ839.lt
   refine go ?_
   refine x_c func90 rfl rfl (cloneC_c V.un V.au V.gu ou V.cu _ (hus.keep E844.u (fun _ h => h)) (by omega) (by omega)) ?_
   rintro _ w847 ⟨⟨aoQ845, gQ845, cQ845, rfl, haQ845⟩, u848⟩ zu848
   have E850 := Sc.mk (E844.u.nx u848)
   have lt_gQ845 := haQ845.lt
   refine go ?_
   refine x_c func91 rfl rfl (cloneH_c V.rs V.ah V.gh oh V.ch _ (hhs.keep E850.u (fun _ h => h)) (by omega) (by omega)) ?_
   rintro _ w853 ⟨⟨aoQ851, gQ851, cQ851, rfl, haQ851⟩, u854⟩ zu854
   have lt_gQ851 := haQ851.lt
   refine go ?_
   refine x_s fun w857 sw857 B859 u858 => ?_
   refine go ?_
   refine x_s fun w861 sw861 B863 u862 => ?_
   refine go ?_
   refine x_s fun w865 sw865 B867 u866 => ?_
   refine go ?_
   have D871 := (((((haQ839.keep u848 (fun _ h => h)).keep u854 (fun _ h => h)).keep u858 (fun hb => show ¬ (gQ839 = bk2) by first | omega | assumption)).keep u862 (fun hb => show ¬ (gQ839 = bk2) by first | omega | assumption)).keep u866 (fun hb => show ¬ (gQ839 = bk2) by first | omega | assumption))
   obtain ⟨gL, hL, hLg⟩ := Acc.lowG (base' := w0.heap.size) D871 (by omega) hpos (by omega)
   have lt_gL := hL.lt
   have D872 := ((((haQ845.keep u854 (fun _ h => h)).keep u858 (fun hb => show ¬ (gQ845 = bk2) by first | omega | assumption)).keep u862 (fun hb => show ¬ (gQ845 = bk2) by first | omega | assumption)).keep u866 (fun hb => show ¬ (gQ845 = bk2) by first | omega | assumption))
   obtain ⟨gU, hU, hUg⟩ := Acc.lowG (base' := w0.heap.size) D872 (by omega) hpos (by omega)
   have lt_gU := hU.lt
   have D873 := (((haQ851.keep u858 (fun hb => show ¬ (gQ851 = bk2) by first | omega | assumption)).keep u862 (fun hb => show ¬ (gQ851 = bk2) by first | omega | assumption)).keep u866 (fun hb => show ¬ (gQ851 = bk2) by first | omega | assumption))
   obtain ⟨gH, hH, hHg⟩ := Acc.lowG (base' := w0.heap.size) D873 (by omega) hpos (by omega)
   have lt_gH := hH.lt
   refine go ?_
   refine x_l2 (fun i => (i = gH ∧ w0.heap.size ≤ i)) [1, 18] (fun (j : Nat) (rs : List HR) => [(19, .int .i64 (j : Int))]) (fun j rs w => (j ≤ V.rs.length) ∧ (Acc encHR 3 70 w0.heap.size w aoQ851 gH cQ851 rs) ∧ (OwnI w0.heap.size w865.heap.size w V j rs)) (fun j rs => V.rs.length - j) 0 V.rs ⟨(Nat.zero_le _), hH, (OwnI.zero _ _ _ _)⟩ ?_
   rintro j rs w875 ⟨hj, hA, hO⟩ u876 zu876 K874 hK874
   have lt_gH := hA.lt
   have hrl := hO.len
   have hgH : rs.length = 0 ∨ w0.heap.size ≤ gH := by
     rcases Nat.eq_zero_or_pos rs.length with h | h
     · exact .inl h
     · exact .inr (hA.ge h)
   refine go ?_
   refine q_p (fun g20 => ?_) fun g20 => ?_
   ·
    refine go ?_
    refine c_drawnM follows (fun i => i = gH) (OTl [0, 2, 4, 6, 8, 10, 12, 14, 17, 19, 20, 22, 25]) (by kernel_rfl) fun w882 u883 => ?_
    have zu883 := u883.size
    refine go ?_
    have D885 := (hA.keep u883 (fun _ h => h))
    refine y_i j (D885.sl (fun _ => rfl)) (fun _ => ?_)
    refine go ?_
    have hnj := hO.rest j (Nat.le_refl _) (by omega)
    refine x_c func90 rfl rfl (by have h9 := cloneC_c (nth V.rs j).c (nth V.rs j).ao (nth V.rs j).g (nth V.rs j).o (nth V.rs j).cp _ ((hI.cs _ (nth_mem (show j < V.rs.length by omega))).keep ((((((E850.u.nx u854).next u858 (fun i hi h => by omega)).next u862 (fun i hi h => by omega)).next u866 (fun i hi h => by omega)).next u876 (fun i hi h => by omega)).nx u883) (fun _ h => h)) (by have := (hcl _ (nth_mem (show j < V.rs.length by omega))); omega) (by omega); rw [← hnj] at h9; exact h9) ?_
    rintro _ w889 ⟨⟨aoQ887, gQ887, cQ887, rfl, haQ887⟩, u890⟩ zu890
    obtain ⟨gz, hz, hzg⟩ := Acc.lowG (base' := w0.heap.size) haQ887 (by omega) hpos (by omega)
    have lt_gz := hz.lt
    refine go ?_
    have D893 := (hA.keep u883 (fun _ h => h))
    refine y_i j (D893.sl (fun _ => rfl)) (fun _ => ?_)
    refine go ?_
    have D895 := (D885.keep u890 (fun _ h => h))
    refine t_storeA (vs := [.slice aoQ887 ((nth rs j).c.length) cQ887]) (j := j) (o' := 2) (k := 3) (⟨(nth rs j).n, (nth rs j).p, aoQ887, gz, 0, cQ887, (nth rs j).c⟩ : HR) (fun _ => rfl) sizeOf64 rfl rfl (by omega) rfl D895 (by first | omega | (simp only [List.length_set, eRuns_len]; omega)) rfl rfl (by decide) (by simp [Value.oneCell']) rfl (fun w896 R898 u897 => ?_)
    have zu897 := u897.size
    refine go ?_
    have D900 := (hz.keep u897 (fun hb => show ¬ (gz = gH) by first | omega | assumption))
    exact hK874 (j + 1) (rs.set j (⟨(nth rs j).n, (nth rs j).p, aoQ887, gz, 0, cQ887, (nth rs j).c⟩ : HR)) ⟨(by omega), R898, (OwnI.next (w := w882) (((hO.keep u883 (fun _ h => h.elim)).keep u890 (fun _ h => h.elim)).keep u897 (fun i h => by omega)) (show j < V.rs.length by omega) D900 (fun hb => by have := hzg hb; omega) (fun i hi => Nat.lt_of_lt_of_le (hO.lt hj i hi) (by omega)))⟩
   refine go ?_
   refine x_b fun bk902 w903 ebk902 sbk902 B904 u905 => ?_
   refine go ?_
   refine f_1 results54 ?_
   have D907 := (hA.keep u905 (fun _ h => h))
   have D908 := ((hL.keep u876 (fun hb => show ¬ ((gL = gH ∧ w0.heap.size ≤ gL)) by first | omega | assumption)).keep u905 (fun _ h => h))
   have D909 := ((hU.keep u876 (fun hb => show ¬ ((gU = gH ∧ w0.heap.size ≤ gU)) by first | omega | assumption)).keep u905 (fun _ h => h))
   have hjn : j = V.rs.length := by omega
   have hO9 := (hO.keep u905 (fun _ h => h.elim))
   rw [hjn] at hO9
   exact ⟨⟨bk902, _, rfl, SeaM.ofOwn hO9 (by omega) (by simpa [SG.cells, hO.len] using B904) D907 D908 D909 (fun h => by omega) (fun _ => by omega) (fun _ => by omega), by simp [SG.st, hO.hul]⟩, u_d⟩
  refine go ?_
  refine x_c func90 rfl rfl (cloneC_c V.ld V.al V.gl ol V.cl _ (hls.keep E10.u (fun _ h => h)) (by omega) (by omega)) ?_
  rintro _ w912 ⟨⟨aoQ910, gQ910, cQ910, rfl, haQ910⟩, u913⟩ zu913
  have E915 := Sc.mk (E10.u.nx u913)
  have lt_gQ910 := haQ910.lt
  refine go ?_
  refine x_c func90 rfl rfl (cloneC_c V.un V.au V.gu ou V.cu _ (hus.keep E915.u (fun _ h => h)) (by omega) (by omega)) ?_
  rintro _ w918 ⟨⟨aoQ916, gQ916, cQ916, rfl, haQ916⟩, u919⟩ zu919
  have E921 := Sc.mk (E915.u.nx u919)
  have lt_gQ916 := haQ916.lt
  refine go ?_
  refine x_c func91 rfl rfl (cloneH_c V.rs V.ah V.gh oh V.ch _ (hhs.keep E921.u (fun _ h => h)) (by omega) (by omega)) ?_
  rintro _ w924 ⟨⟨aoQ922, gQ922, cQ922, rfl, haQ922⟩, u925⟩ zu925
  have lt_gQ922 := haQ922.lt
  refine go ?_
  refine x_s fun w928 sw928 B930 u929 => ?_
  refine go ?_
  refine x_s fun w932 sw932 B934 u933 => ?_
  refine go ?_
  refine x_s fun w936 sw936 B938 u937 => ?_
  refine go ?_
  have D942 := (((((haQ910.keep u919 (fun _ h => h)).keep u925 (fun _ h => h)).keep u929 (fun hb => show ¬ (gQ910 = bk2) by first | omega | assumption)).keep u933 (fun hb => show ¬ (gQ910 = bk2) by first | omega | assumption)).keep u937 (fun hb => show ¬ (gQ910 = bk2) by first | omega | assumption))
  obtain ⟨gL, hL, hLg⟩ := Acc.lowG (base' := w0.heap.size) D942 (by omega) hpos (by omega)
  have lt_gL := hL.lt
  have D943 := ((((haQ916.keep u925 (fun _ h => h)).keep u929 (fun hb => show ¬ (gQ916 = bk2) by first | omega | assumption)).keep u933 (fun hb => show ¬ (gQ916 = bk2) by first | omega | assumption)).keep u937 (fun hb => show ¬ (gQ916 = bk2) by first | omega | assumption))
  obtain ⟨gU, hU, hUg⟩ := Acc.lowG (base' := w0.heap.size) D943 (by omega) hpos (by omega)
  have lt_gU := hU.lt
  have D944 := (((haQ922.keep u929 (fun hb => show ¬ (gQ922 = bk2) by first | omega | assumption)).keep u933 (fun hb => show ¬ (gQ922 = bk2) by first | omega | assumption)).keep u937 (fun hb => show ¬ (gQ922 = bk2) by first | omega | assumption))
  obtain ⟨gH, hH, hHg⟩ := Acc.lowG (base' := w0.heap.size) D944 (by omega) hpos (by omega)
  have lt_gH := hH.lt
  refine go ?_
  refine x_l2 (fun i => (i = gH ∧ w0.heap.size ≤ i)) [1, 18] (fun (j : Nat) (rs : List HR) => [(19, .int .i64 (j : Int))]) (fun j rs w => (j ≤ V.rs.length) ∧ (Acc encHR 3 70 w0.heap.size w aoQ922 gH cQ922 rs) ∧ (OwnI w0.heap.size w936.heap.size w V j rs)) (fun j rs => V.rs.length - j) 0 V.rs ⟨(Nat.zero_le _), hH, (OwnI.zero _ _ _ _)⟩ ?_
  rintro j rs w946 ⟨hj, hA, hO⟩ u947 zu947 K945 hK945
  have lt_gH := hA.lt
  have hrl := hO.len
  have hgH : rs.length = 0 ∨ w0.heap.size ≤ gH := by
    rcases Nat.eq_zero_or_pos rs.length with h | h
    · exact .inl h
    · exact .inr (hA.ge h)
  refine go ?_
  refine q_p (fun g20 => ?_) fun g20 => ?_
  ·
   refine go ?_
   refine c_drawnM follows (fun i => i = gH) (OTl [0, 2, 4, 6, 8, 10, 12, 14, 17, 19, 20, 22, 25]) (by kernel_rfl) fun w953 u954 => ?_
   have zu954 := u954.size
   refine go ?_
   have D956 := (hA.keep u954 (fun _ h => h))
   refine y_i j (D956.sl (fun _ => rfl)) (fun _ => ?_)
   refine go ?_
   have hnj := hO.rest j (Nat.le_refl _) (by omega)
   refine x_c func90 rfl rfl (by have h9 := cloneC_c (nth V.rs j).c (nth V.rs j).ao (nth V.rs j).g (nth V.rs j).o (nth V.rs j).cp _ ((hI.cs _ (nth_mem (show j < V.rs.length by omega))).keep ((((((E921.u.nx u925).next u929 (fun i hi h => by omega)).next u933 (fun i hi h => by omega)).next u937 (fun i hi h => by omega)).next u947 (fun i hi h => by omega)).nx u954) (fun _ h => h)) (by have := (hcl _ (nth_mem (show j < V.rs.length by omega))); omega) (by omega); rw [← hnj] at h9; exact h9) ?_
   rintro _ w960 ⟨⟨aoQ958, gQ958, cQ958, rfl, haQ958⟩, u961⟩ zu961
   obtain ⟨gz, hz, hzg⟩ := Acc.lowG (base' := w0.heap.size) haQ958 (by omega) hpos (by omega)
   have lt_gz := hz.lt
   refine go ?_
   have D964 := (hA.keep u954 (fun _ h => h))
   refine y_i j (D964.sl (fun _ => rfl)) (fun _ => ?_)
   refine go ?_
   have D966 := (D956.keep u961 (fun _ h => h))
   refine t_storeA (vs := [.slice aoQ958 ((nth rs j).c.length) cQ958]) (j := j) (o' := 2) (k := 3) (⟨(nth rs j).n, (nth rs j).p, aoQ958, gz, 0, cQ958, (nth rs j).c⟩ : HR) (fun _ => rfl) sizeOf64 rfl rfl (by omega) rfl D966 (by first | omega | (simp only [List.length_set, eRuns_len]; omega)) rfl rfl (by decide) (by simp [Value.oneCell']) rfl (fun w967 R969 u968 => ?_)
   have zu968 := u968.size
   refine go ?_
   have D971 := (hz.keep u968 (fun hb => show ¬ (gz = gH) by first | omega | assumption))
   exact hK945 (j + 1) (rs.set j (⟨(nth rs j).n, (nth rs j).p, aoQ958, gz, 0, cQ958, (nth rs j).c⟩ : HR)) ⟨(by omega), R969, (OwnI.next (w := w953) (((hO.keep u954 (fun _ h => h.elim)).keep u961 (fun _ h => h.elim)).keep u968 (fun i h => by omega)) (show j < V.rs.length by omega) D971 (fun hb => by have := hzg hb; omega) (fun i hi => Nat.lt_of_lt_of_le (hO.lt hj i hi) (by omega)))⟩
  refine go ?_
  refine x_b fun bk973 w974 ebk973 sbk973 B975 u976 => ?_
  refine go ?_
  refine f_1 results54 ?_
  have D978 := (hA.keep u976 (fun _ h => h))
  have D979 := ((hL.keep u947 (fun hb => show ¬ ((gL = gH ∧ w0.heap.size ≤ gL)) by first | omega | assumption)).keep u976 (fun _ h => h))
  have D980 := ((hU.keep u947 (fun hb => show ¬ ((gU = gH ∧ w0.heap.size ≤ gU)) by first | omega | assumption)).keep u976 (fun _ h => h))
  have hjn : j = V.rs.length := by omega
  have hO9 := (hO.keep u976 (fun _ h => h.elim))
  rw [hjn] at hO9
  exact ⟨⟨bk973, _, rfl, SeaM.ofOwn hO9 (by omega) (by simpa [SG.cells, hO.len] using B975) D978 D979 D980 (fun h => by omega) (fun _ => by omega) (fun _ => by omega), by simp [SG.st, hO.hul]⟩, u_d⟩
 refine go ?_
 refine x_c func90 rfl rfl (cloneC_c V.ld V.al V.gl ol V.cl _ (hls.keep E10.u (fun _ h => h)) (by omega) (by omega)) ?_
 rintro _ w983 ⟨⟨aoQ981, gQ981, cQ981, rfl, haQ981⟩, u984⟩ zu984
 have E986 := Sc.mk (E10.u.nx u984)
 have lt_gQ981 := haQ981.lt
 refine go ?_
 refine x_c func90 rfl rfl (cloneC_c V.un V.au V.gu ou V.cu _ (hus.keep E986.u (fun _ h => h)) (by omega) (by omega)) ?_
 rintro _ w989 ⟨⟨aoQ987, gQ987, cQ987, rfl, haQ987⟩, u990⟩ zu990
 have E992 := Sc.mk (E986.u.nx u990)
 have lt_gQ987 := haQ987.lt
 refine go ?_
 refine x_c func91 rfl rfl (cloneH_c V.rs V.ah V.gh oh V.ch _ (hhs.keep E992.u (fun _ h => h)) (by omega) (by omega)) ?_
 rintro _ w995 ⟨⟨aoQ993, gQ993, cQ993, rfl, haQ993⟩, u996⟩ zu996
 have lt_gQ993 := haQ993.lt
 refine go ?_
 refine x_s fun w999 sw999 B1001 u1000 => ?_
 refine go ?_
 refine x_s fun w1003 sw1003 B1005 u1004 => ?_
 refine go ?_
 refine x_s fun w1007 sw1007 B1009 u1008 => ?_
 refine go ?_
 have D1013 := (((((haQ981.keep u990 (fun _ h => h)).keep u996 (fun _ h => h)).keep u1000 (fun hb => show ¬ (gQ981 = bk2) by first | omega | assumption)).keep u1004 (fun hb => show ¬ (gQ981 = bk2) by first | omega | assumption)).keep u1008 (fun hb => show ¬ (gQ981 = bk2) by first | omega | assumption))
 obtain ⟨gL, hL, hLg⟩ := Acc.lowG (base' := w0.heap.size) D1013 (by omega) hpos (by omega)
 have lt_gL := hL.lt
 have D1014 := ((((haQ987.keep u996 (fun _ h => h)).keep u1000 (fun hb => show ¬ (gQ987 = bk2) by first | omega | assumption)).keep u1004 (fun hb => show ¬ (gQ987 = bk2) by first | omega | assumption)).keep u1008 (fun hb => show ¬ (gQ987 = bk2) by first | omega | assumption))
 obtain ⟨gU, hU, hUg⟩ := Acc.lowG (base' := w0.heap.size) D1014 (by omega) hpos (by omega)
 have lt_gU := hU.lt
 have D1015 := (((haQ993.keep u1000 (fun hb => show ¬ (gQ993 = bk2) by first | omega | assumption)).keep u1004 (fun hb => show ¬ (gQ993 = bk2) by first | omega | assumption)).keep u1008 (fun hb => show ¬ (gQ993 = bk2) by first | omega | assumption))
 obtain ⟨gH, hH, hHg⟩ := Acc.lowG (base' := w0.heap.size) D1015 (by omega) hpos (by omega)
 have lt_gH := hH.lt
 refine go ?_
 refine x_l2 (fun i => (i = gH ∧ w0.heap.size ≤ i)) [1, 18] (fun (j : Nat) (rs : List HR) => [(19, .int .i64 (j : Int))]) (fun j rs w => (j ≤ V.rs.length) ∧ (Acc encHR 3 70 w0.heap.size w aoQ993 gH cQ993 rs) ∧ (OwnI w0.heap.size w1007.heap.size w V j rs)) (fun j rs => V.rs.length - j) 0 V.rs ⟨(Nat.zero_le _), hH, (OwnI.zero _ _ _ _)⟩ ?_
 rintro j rs w1017 ⟨hj, hA, hO⟩ u1018 zu1018 K1016 hK1016
 have lt_gH := hA.lt
 have hrl := hO.len
 have hgH : rs.length = 0 ∨ w0.heap.size ≤ gH := by
   rcases Nat.eq_zero_or_pos rs.length with h | h
   · exact .inl h
   · exact .inr (hA.ge h)
 refine go ?_
 refine q_p (fun g20 => ?_) fun g20 => ?_
 ·
  refine go ?_
  refine c_drawnM follows (fun i => i = gH) (OTl [0, 2, 4, 6, 8, 10, 12, 14, 17, 19, 20, 22, 25]) (by kernel_rfl) fun w1024 u1025 => ?_
  have zu1025 := u1025.size
  refine go ?_
  have D1027 := (hA.keep u1025 (fun _ h => h))
  refine y_i j (D1027.sl (fun _ => rfl)) (fun _ => ?_)
  refine go ?_
  have hnj := hO.rest j (Nat.le_refl _) (by omega)
  refine x_c func90 rfl rfl (by have h9 := cloneC_c (nth V.rs j).c (nth V.rs j).ao (nth V.rs j).g (nth V.rs j).o (nth V.rs j).cp _ ((hI.cs _ (nth_mem (show j < V.rs.length by omega))).keep ((((((E992.u.nx u996).next u1000 (fun i hi h => by omega)).next u1004 (fun i hi h => by omega)).next u1008 (fun i hi h => by omega)).next u1018 (fun i hi h => by omega)).nx u1025) (fun _ h => h)) (by have := (hcl _ (nth_mem (show j < V.rs.length by omega))); omega) (by omega); rw [← hnj] at h9; exact h9) ?_
  rintro _ w1031 ⟨⟨aoQ1029, gQ1029, cQ1029, rfl, haQ1029⟩, u1032⟩ zu1032
  obtain ⟨gz, hz, hzg⟩ := Acc.lowG (base' := w0.heap.size) haQ1029 (by omega) hpos (by omega)
  have lt_gz := hz.lt
  refine go ?_
  have D1035 := (hA.keep u1025 (fun _ h => h))
  refine y_i j (D1035.sl (fun _ => rfl)) (fun _ => ?_)
  refine go ?_
  have D1037 := (D1027.keep u1032 (fun _ h => h))
  refine t_storeA (vs := [.slice aoQ1029 ((nth rs j).c.length) cQ1029]) (j := j) (o' := 2) (k := 3) (⟨(nth rs j).n, (nth rs j).p, aoQ1029, gz, 0, cQ1029, (nth rs j).c⟩ : HR) (fun _ => rfl) sizeOf64 rfl rfl (by omega) rfl D1037 (by first | omega | (simp only [List.length_set, eRuns_len]; omega)) rfl rfl (by decide) (by simp [Value.oneCell']) rfl (fun w1038 R1040 u1039 => ?_)
  have zu1039 := u1039.size
  refine go ?_
  have D1042 := (hz.keep u1039 (fun hb => show ¬ (gz = gH) by first | omega | assumption))
  exact hK1016 (j + 1) (rs.set j (⟨(nth rs j).n, (nth rs j).p, aoQ1029, gz, 0, cQ1029, (nth rs j).c⟩ : HR)) ⟨(by omega), R1040, (OwnI.next (w := w1024) (((hO.keep u1025 (fun _ h => h.elim)).keep u1032 (fun _ h => h.elim)).keep u1039 (fun i h => by omega)) (show j < V.rs.length by omega) D1042 (fun hb => by have := hzg hb; omega) (fun i hi => Nat.lt_of_lt_of_le (hO.lt hj i hi) (by omega)))⟩
 refine go ?_
 refine x_b fun bk1044 w1045 ebk1044 sbk1044 B1046 u1047 => ?_
 refine go ?_
 refine f_1 results54 ?_
 have D1049 := (hA.keep u1047 (fun _ h => h))
 have D1050 := ((hL.keep u1018 (fun hb => show ¬ ((gL = gH ∧ w0.heap.size ≤ gL)) by first | omega | assumption)).keep u1047 (fun _ h => h))
 have D1051 := ((hU.keep u1018 (fun hb => show ¬ ((gU = gH ∧ w0.heap.size ≤ gU)) by first | omega | assumption)).keep u1047 (fun _ h => h))
 have hjn : j = V.rs.length := by omega
 have hO9 := (hO.keep u1047 (fun _ h => h.elim))
 rw [hjn] at hO9
 exact ⟨⟨bk1044, _, rfl, SeaM.ofOwn hO9 (by omega) (by simpa [SG.cells, hO.len] using B1046) D1049 D1050 D1051 (fun h => by omega) (fun _ => by omega) (fun _ => by omega), by simp [SG.st, hO.hul]⟩, u_d⟩

end Go.Proofs.YtagmkfbbhfaceaaGreatDoor
